/- slices.Delete of one element at nodes and edges whose row is one's own; slices.DeleteFunc at edges whose row is one's own; graph.addNode, addEdge; graph.dropNode, dropEdge. Conditions: those that each theorem names. -/
import Derived.WalkKit
import Derived.WalkSpells
import Derived.WalkLawsBesides
import Derived.Lib.Hide
import Derived.BigQuiet
import Derived.Deep.LoopGhost
import Derived.Test.YtfachjfohhhgeaaGreatRows
import Derived.Lib.SliceRun
import Derived.WideMake
import Derived.Deep.RegionLaw
import Derived.Lib.Overlaps
import Derived.Test.YtfachjfohhhgeaaGreatUdC
namespace Go.Hg
open Go.RowKit Go.Proofs

theorem del_take {α : Type} (sz : Nat) (cur xs cs : List α) (i n cap : Nat) (h1 : cur.length = cap * sz) (h2 : cur.take (n * sz) = xs) (h3 : i < n) (h4 : n ≤ cap) (h5 : cs.length = 1 * sz) (cur1 cur2 : List α)
    (e1 : cur1 = cur.take (i * sz) ++ xs.drop ((i + 1) * sz) ++ cur.drop (i * sz + (xs.drop ((i + 1) * sz)).length)) (e2 : cur2 = cur1.take ((n - 1) * sz) ++ cs ++ cur1.drop ((n - 1) * sz + cs.length)) :
    cur1.length = cap * sz ∧ cur2.length = cap * sz ∧ cur2.take ((n - 1) * sz) = xs.take (i * sz) ++ xs.drop ((i + 1) * sz) ∧ (xs.drop ((i + 1) * sz)).length = (n - i - 1) * sz := by
  have hnc : n * sz ≤ cap * sz := Nat.mul_le_mul_right _ h4
  have hxs : xs.length = n * sz := by rw [← h2, List.length_take]; omega
  obtain ⟨m, rfl⟩ : ∃ m, n = i + 1 + m := ⟨n - (i + 1), by omega⟩
  obtain ⟨c, rfl⟩ : ∃ c, cap = i + 1 + m + c := ⟨cap - (i + 1 + m), by omega⟩
  have hB : (xs.drop ((i + 1) * sz)).length = m * sz := by rw [List.length_drop, hxs, Nat.add_mul (i + 1) m sz]; omega
  have q1 : (i + 1) * sz = i * sz + sz := Nat.succ_mul i sz
  have q2 : (i + 1 + m) * sz = i * sz + sz + m * sz := by rw [Nat.add_mul, q1]
  have q3 : (i + 1 + m + c) * sz = i * sz + sz + m * sz + c * sz := by rw [Nat.add_mul, q2]
  have q4 : (i + 1 + m - 1) * sz = i * sz + m * sz := by rw [show i + 1 + m - 1 = i + m by omega, Nat.add_mul]
  have q5 : (i + 1 + m - i - 1) = m := by omega
  have hA : (cur.take (i * sz)).length = i * sz := by rw [List.length_take]; omega
  have l1 : cur1.length = (i + 1 + m + c) * sz := by
    rw [e1, List.length_append, List.length_append, hA, hB, List.length_drop, h1]; omega
  have t1 : cur1.take ((i + 1 + m - 1) * sz) = cur.take (i * sz) ++ xs.drop ((i + 1) * sz) := by
    rw [e1]
    have : (i + 1 + m - 1) * sz = (cur.take (i * sz) ++ xs.drop ((i + 1) * sz)).length := by rw [List.length_append, hA, hB]; omega
    rw [this, List.take_left]
  have t0 : cur.take (i * sz) = xs.take (i * sz) := by
    rw [← h2, List.take_take]; congr 1; omega
  refine ⟨l1, ?_, ?_, by rw [q5]; exact hB⟩
  · rw [e2, t1, List.length_append, List.length_append, List.length_append, hA, hB, List.length_drop, l1]; omega
  · rw [e2, t1, t0, List.append_assoc]
    have : (i + 1 + m - 1) * sz = (xs.take (i * sz) ++ xs.drop ((i + 1) * sz)).length := by rw [List.length_append, ← t0, hA, hB]; omega
    rw [this, List.take_left]

set_option maxRecDepth 100000 in
set_option maxHeartbeats 2000000 in
theorem deleteNode (v : Value) (n : Nat) (xs : List Value) (ob : Option Nat) (i : Nat) (w : World) (hown : OwnS w 89 3 v n xs ob) (hn : n ≤ 1099511627776)
    (hi : i < n) (h1x : ∀ u ∈ xs, u.oneCell' = true) :
    Calls Tryz.prog 113 #[v, .int .i64 i, .int .i64 (i + 1)] w fun e w' =>
      ∃ v', e = .returned v' ∧ OwnS w' 89 3 v' (n - 1) (xs.take (i * 3) ++ xs.drop ((i + 1) * 3)) ob ∧ Mod (fun k => ob = some k) w w' := by
  obtain ⟨iP, hiP, hzP0, hzP1, hzP2⟩ := info_parts infoNode
  have hxl := hown.1
  rcases hown.2 with ⟨_, _, h, _⟩ | ⟨g, cap, cur, rfl, rfl, hblk, hnc, hcm, hcs, htk⟩
  · omega
  have hTP : Tryz.prog.underlying 59 = some (.slice 89) := Tryz.underlying59
  have hlt : g < w.heap.size := blk_lt hblk
  have hlc : cur.toList.length = cap * 3 := by simpa using hcs
  unfold maxLen at hcm
  obtain ⟨cur1, hcur1⟩ : ∃ c1, c1 = cur.toList.take (i * 3) ++ xs.drop ((i + 1) * 3) ++ cur.toList.drop (i * 3 + (xs.drop ((i + 1) * 3)).length) := ⟨_, rfl⟩
  have hrd : ∀ o : Nat, (cap = i + 1 ∨ o = (i + 1) * 3) → ∀ w' : World, w'.heap[g]? = w.heap[g]? → ∀ j u, (xs.drop ((i + 1) * 3))[j]? = some u → w'.cell? ((⟨g, o, none⟩ : Addr).add j) = some u := by
    intro o ho w' hw' j u hu
    rcases ho with ho | rfl
    · rw [List.drop_of_length_le (by omega)] at hu
      cases hu
    rw [Addr.add_lit, blk_cell (hw'.trans hblk), ← Array.getElem?_toList]
    rw [← htk, List.getElem?_drop, List.getElem?_take] at hu
    split at hu
    · exact hu
    · cases hu
  have hd0 := del_take 3 cur.toList xs (List.replicate (1 * 3) (Value.bool false)) i n cap hlc htk hi hnc (by simp) cur1 _ hcur1 rfl
  have hnl := hd0.2.2.2
  have hl1 := hd0.1
  clear hd0
  have hap : ∀ ty c o, (cap = i + 1 ∨ o = (i + 1) * 3) → (Builtin.append_ #[59, 59] ty #[.slice (some ⟨g, 0, none⟩) i cap, .slice (some ⟨g, o, none⟩) (n - (i + 1)) c]).run Tryz.prog w.drew =
      .ok (.slice (some ⟨g, 0, none⟩) (n - 1) cap) (w.drew.setRow g cur1.toArray) := fun ty c o ho => by
    have hr := run_append_room (P := Tryz.prog) w.drew 59 ty 89 iP hTP hiP g i cap cur (by exact hblk) ⟨g, o, none⟩ (n - (i + 1)) c (xs.drop ((i + 1) * 3)) (by rw [hzP1, hnl]; congr 1) (hrd o ho _ rfl) (fun u hu => h1x u (List.mem_of_mem_drop hu)) (by omega) (by rw [hzP1, hnl, hcs]; omega)
    rw [hr, hzP1, ← hcur1, show i + (n - (i + 1)) = n - 1 by omega]
  have hb1 : (w.drew.setRow g cur1.toArray).heap[g]? = some (.cells cur1.toArray 89 (0, 0)) := setRow_heap w.drew g cur cur1.toArray 89 (0, 0) hblk
  obtain ⟨z, hz, hzs, hz1⟩ : ∃ z, (∀ w, (zeroValue 89).run Tryz.prog w = .ok z w) ∧ z.cells.size = 3 ∧ (∀ u ∈ z.cells.toList, u.oneCell' = true) := ⟨.agg #[.int .i64 0, .string ByteArray.empty, .slice none 0 0], fun w => by kernel_rfl, rfl, by decide⟩
  obtain ⟨cs, hcsl, hcl⟩ := run_clear_row (P := Tryz.prog) (w.drew.setRow g cur1.toArray) 59 0 89 z hTP hz g ((n - 1) * 3) 1 (cap - (n - 1)) cur1.toArray 89 hb1 (by rw [hzs]; simp [hl1]; omega) hz1
  rw [hzs] at hcsl
  obtain ⟨cur2, hcur2⟩ : ∃ c2, c2 = cur1.take ((n - 1) * 3) ++ cs ++ cur1.drop ((n - 1) * 3 + cs.length) := ⟨_, rfl⟩
  have hd := del_take 3 cur.toList xs cs i n cap hlc htk hi hnc (by simpa using hcsl) cur1 cur2 hcur1 hcur2
  have hb2 : ((w.drew.setRow g cur1.toArray).setRow g cur2.toArray).heap[g]? = some (.cells cur2.toArray 89 (0, 0)) := setRow_heap _ g _ cur2.toArray 89 (0, 0) hb1
  have HFIN := Lib.hid (show OwnS ((w.drew.setRow g cur1.toArray).setRow g cur2.toArray) 89 3 (.slice (some ⟨g, 0, none⟩) (n - 1) cap) (n - 1) (xs.take (i * 3) ++ xs.drop ((i + 1) * 3)) (some g) from
    ⟨by rw [← hd.2.2.1, List.length_take, hd.2.1]; omega, .inr ⟨g, cap, cur2.toArray, rfl, rfl, hb2, by omega, by unfold maxLen; omega, by simpa using hd.2.1, hd.2.2.1⟩⟩)
  have HMOD := Lib.hid (show Mod (fun k => some g = some k) w ((w.drew.setRow g cur1.toArray).setRow g cur2.toArray) from
    ⟨rfl, rfl, rfl, by simp, fun k hk hh => by rw [setRow_other _ _ _ _ (fun e => hh (by rw [e])), setRow_other _ _ _ _ (fun e => hh (by rw [e]))]; rfl⟩)
  have hcl' : ∀ ty, (Builtin.clear_ #[59] ty #[.slice (some ⟨g, (n - 1) * 3, none⟩) 1 (cap - (n - 1))]).run Tryz.prog (w.drew.setRow g cur1.toArray) = .ok (.tuple #[]) ((w.drew.setRow g cur1.toArray).setRow g cur2.toArray) := by
    intro ty
    rw [hcur2]
    exact hcl
  have HAP := Lib.hid hap
  have hr1 : ¬ n = i := by omega
  have hr3 : ¬ cap = n - 1 := by omega
  have hne : ((i : Int) == (i : Int) + 1) = false := by simp; omega
  have hq1 : (0 : Int) ≤ (i : Int) + 1 := by omega
  have hq2 : (i : Int) ≤ (i : Int) + 1 := by omega
  have hq3 : (i : Int) + 1 ≤ (n : Int) := by omega
  have hq4 : ((i : Int) + 1).toNat = i + 1 := by omega
  have hq5 : (n : Int) ≤ (cap : Int) := by omega
  have hq6 : (i : Int) ≤ (cap : Int) := by omega
  have hq7 : (((n - 1 : Nat) : Int)) ≤ (n : Int) := by omega
  have hq8 : n - (n - 1) = 1 := by omega
  have HSELF := Lib.hid (show cap = i + 1 → w.drew.setRow g cur1.toArray = w.drew by
    intro hce
    have e : cur1.toArray = cur := by
      rw [hcur1, List.drop_of_length_le (by omega)]
      simp
    rw [e]
    exact setRow_self w.drew g cur 89 (0, 0) hblk)
  clear hown hblk hxl htk hlc hcur1 hrd hnl hl1 hap hb1 hz hzs hz1 hcsl hcl hcur2 hd hb2 hcs h1x
  by_cases hce : cap = i + 1
  · have hself := HSELF.out hce
    clear HAP HSELF
    rw [hself] at hcl' HFIN HMOD
    obtain rfl : n = i + 1 := by omega
    subst hce
    simp only [Nat.add_sub_cancel, Nat.add_sub_cancel_left] at *
    go_enter Tryz.func113, Tryz.ntmps113
    go_wp2_with fail
    go_region
    go_wp2
    go_ret
    exact ⟨_, rfl, HFIN.out, HMOD.out⟩
  · have HAP2 := Lib.hid (fun ty c => HAP.out ty c _ (.inr rfl))
    clear HAP
    go_enter Tryz.func113, Tryz.ntmps113
    go_wp2_with fail
    go_region_law (refine step_run rfl (exec_append _ (.tmp 22) (.tmp 25) 59 59 rfl (by simp [Act.eval, Act.put]) (show _ = Value.slice (some ⟨g, (i + 1) * 3, none⟩) (n - (i + 1)) (cap - (i + 1)) by simp [Act.eval, Act.put]) (fun ty => HAP2.out ty _)) ?_)
    go_wp2
    go_ret
    exact ⟨_, rfl, HFIN.out, HMOD.out⟩

set_option maxRecDepth 100000 in
set_option maxHeartbeats 2000000 in
theorem deleteEdge (v : Value) (n : Nat) (xs : List Value) (ob : Option Nat) (i : Nat) (w : World) (hown : OwnS w 91 5 v n xs ob) (hn : n ≤ 1099511627776)
    (hi : i < n) (h1x : ∀ u ∈ xs, u.oneCell' = true) :
    Calls Tryz.prog 115 #[v, .int .i64 i, .int .i64 (i + 1)] w fun e w' =>
      ∃ v', e = .returned v' ∧ OwnS w' 91 5 v' (n - 1) (xs.take (i * 5) ++ xs.drop ((i + 1) * 5)) ob ∧ Mod (fun k => ob = some k) w w' := by
  obtain ⟨iP, hiP, hzP0, hzP1, hzP2⟩ := info_parts infoEdge
  have hxl := hown.1
  rcases hown.2 with ⟨_, _, h, _⟩ | ⟨g, cap, cur, rfl, rfl, hblk, hnc, hcm, hcs, htk⟩
  · omega
  have hTP : Tryz.prog.underlying 84 = some (.slice 91) := Tryz.underlying84
  have hlt : g < w.heap.size := blk_lt hblk
  have hlc : cur.toList.length = cap * 5 := by simpa using hcs
  unfold maxLen at hcm
  obtain ⟨cur1, hcur1⟩ : ∃ c1, c1 = cur.toList.take (i * 5) ++ xs.drop ((i + 1) * 5) ++ cur.toList.drop (i * 5 + (xs.drop ((i + 1) * 5)).length) := ⟨_, rfl⟩
  have hrd : ∀ o : Nat, (cap = i + 1 ∨ o = (i + 1) * 5) → ∀ w' : World, w'.heap[g]? = w.heap[g]? → ∀ j u, (xs.drop ((i + 1) * 5))[j]? = some u → w'.cell? ((⟨g, o, none⟩ : Addr).add j) = some u := by
    intro o ho w' hw' j u hu
    rcases ho with ho | rfl
    · rw [List.drop_of_length_le (by omega)] at hu
      cases hu
    rw [Addr.add_lit, blk_cell (hw'.trans hblk), ← Array.getElem?_toList]
    rw [← htk, List.getElem?_drop, List.getElem?_take] at hu
    split at hu
    · exact hu
    · cases hu
  have hd0 := del_take 5 cur.toList xs (List.replicate (1 * 5) (Value.bool false)) i n cap hlc htk hi hnc (by simp) cur1 _ hcur1 rfl
  have hnl := hd0.2.2.2
  have hl1 := hd0.1
  clear hd0
  have hap : ∀ ty c o, (cap = i + 1 ∨ o = (i + 1) * 5) → (Builtin.append_ #[84, 84] ty #[.slice (some ⟨g, 0, none⟩) i cap, .slice (some ⟨g, o, none⟩) (n - (i + 1)) c]).run Tryz.prog w.drew =
      .ok (.slice (some ⟨g, 0, none⟩) (n - 1) cap) (w.drew.setRow g cur1.toArray) := fun ty c o ho => by
    have hr := run_append_room (P := Tryz.prog) w.drew 84 ty 91 iP hTP hiP g i cap cur (by exact hblk) ⟨g, o, none⟩ (n - (i + 1)) c (xs.drop ((i + 1) * 5)) (by rw [hzP1, hnl]; congr 1) (hrd o ho _ rfl) (fun u hu => h1x u (List.mem_of_mem_drop hu)) (by omega) (by rw [hzP1, hnl, hcs]; omega)
    rw [hr, hzP1, ← hcur1, show i + (n - (i + 1)) = n - 1 by omega]
  have hb1 : (w.drew.setRow g cur1.toArray).heap[g]? = some (.cells cur1.toArray 91 (0, 0)) := setRow_heap w.drew g cur cur1.toArray 91 (0, 0) hblk
  obtain ⟨z, hz, hzs, hz1⟩ : ∃ z, (∀ w, (zeroValue 91).run Tryz.prog w = .ok z w) ∧ z.cells.size = 5 ∧ (∀ u ∈ z.cells.toList, u.oneCell' = true) := ⟨.agg #[.int .i64 0, .string ByteArray.empty, .int .i64 0, .int .i64 0, .slice none 0 0], fun w => by kernel_rfl, rfl, by decide⟩
  obtain ⟨cs, hcsl, hcl⟩ := run_clear_row (P := Tryz.prog) (w.drew.setRow g cur1.toArray) 84 0 91 z hTP hz g ((n - 1) * 5) 1 (cap - (n - 1)) cur1.toArray 91 hb1 (by rw [hzs]; simp [hl1]; omega) hz1
  rw [hzs] at hcsl
  obtain ⟨cur2, hcur2⟩ : ∃ c2, c2 = cur1.take ((n - 1) * 5) ++ cs ++ cur1.drop ((n - 1) * 5 + cs.length) := ⟨_, rfl⟩
  have hd := del_take 5 cur.toList xs cs i n cap hlc htk hi hnc (by simpa using hcsl) cur1 cur2 hcur1 hcur2
  have hb2 : ((w.drew.setRow g cur1.toArray).setRow g cur2.toArray).heap[g]? = some (.cells cur2.toArray 91 (0, 0)) := setRow_heap _ g _ cur2.toArray 91 (0, 0) hb1
  have HFIN := Lib.hid (show OwnS ((w.drew.setRow g cur1.toArray).setRow g cur2.toArray) 91 5 (.slice (some ⟨g, 0, none⟩) (n - 1) cap) (n - 1) (xs.take (i * 5) ++ xs.drop ((i + 1) * 5)) (some g) from
    ⟨by rw [← hd.2.2.1, List.length_take, hd.2.1]; omega, .inr ⟨g, cap, cur2.toArray, rfl, rfl, hb2, by omega, by unfold maxLen; omega, by simpa using hd.2.1, hd.2.2.1⟩⟩)
  have HMOD := Lib.hid (show Mod (fun k => some g = some k) w ((w.drew.setRow g cur1.toArray).setRow g cur2.toArray) from
    ⟨rfl, rfl, rfl, by simp, fun k hk hh => by rw [setRow_other _ _ _ _ (fun e => hh (by rw [e])), setRow_other _ _ _ _ (fun e => hh (by rw [e]))]; rfl⟩)
  have hcl' : ∀ ty, (Builtin.clear_ #[84] ty #[.slice (some ⟨g, (n - 1) * 5, none⟩) 1 (cap - (n - 1))]).run Tryz.prog (w.drew.setRow g cur1.toArray) = .ok (.tuple #[]) ((w.drew.setRow g cur1.toArray).setRow g cur2.toArray) := by
    intro ty
    rw [hcur2]
    exact hcl
  have HAP := Lib.hid hap
  have hr1 : ¬ n = i := by omega
  have hr3 : ¬ cap = n - 1 := by omega
  have hne : ((i : Int) == (i : Int) + 1) = false := by simp; omega
  have hq1 : (0 : Int) ≤ (i : Int) + 1 := by omega
  have hq2 : (i : Int) ≤ (i : Int) + 1 := by omega
  have hq3 : (i : Int) + 1 ≤ (n : Int) := by omega
  have hq4 : ((i : Int) + 1).toNat = i + 1 := by omega
  have hq5 : (n : Int) ≤ (cap : Int) := by omega
  have hq6 : (i : Int) ≤ (cap : Int) := by omega
  have hq7 : (((n - 1 : Nat) : Int)) ≤ (n : Int) := by omega
  have hq8 : n - (n - 1) = 1 := by omega
  have HSELF := Lib.hid (show cap = i + 1 → w.drew.setRow g cur1.toArray = w.drew by
    intro hce
    have e : cur1.toArray = cur := by
      rw [hcur1, List.drop_of_length_le (by omega)]
      simp
    rw [e]
    exact setRow_self w.drew g cur 91 (0, 0) hblk)
  clear hown hblk hxl htk hlc hcur1 hrd hnl hl1 hap hb1 hz hzs hz1 hcsl hcl hcur2 hd hb2 hcs h1x
  by_cases hce : cap = i + 1
  · have hself := HSELF.out hce
    clear HAP HSELF
    rw [hself] at hcl' HFIN HMOD
    obtain rfl : n = i + 1 := by omega
    subst hce
    simp only [Nat.add_sub_cancel, Nat.add_sub_cancel_left] at *
    go_enter Tryz.func115, Tryz.ntmps115
    go_wp2_with fail
    go_region
    go_wp2
    go_ret
    exact ⟨_, rfl, HFIN.out, HMOD.out⟩
  · have HAP2 := Lib.hid (fun ty c => HAP.out ty c _ (.inr rfl))
    clear HAP
    go_enter Tryz.func115, Tryz.ntmps115
    go_wp2_with fail
    go_region_law (refine step_run rfl (exec_append _ (.tmp 22) (.tmp 25) 84 84 rfl (by simp [Act.eval, Act.put]) (show _ = Value.slice (some ⟨g, (i + 1) * 5, none⟩) (n - (i + 1)) (cap - (i + 1)) by simp [Act.eval, Act.put]) (fun ty => HAP2.out ty _)) ?_)
    go_wp2
    go_ret
    exact ⟨_, rfl, HFIN.out, HMOD.out⟩
end Go.Hg

namespace Go.Hg
open Go.RowKit Go.Proofs

def AsksM (F : Nat → Prop) (f : Nat) (c : Addr) (p : PEdge → Bool) (w : World) : Prop :=
  (∀ args w, (callFunc f args).run Tryz.prog w = .ok (.enter f args) w) ∧ ∀ (S : Nat → Prop) (x : PEdge) (pv : Value) (w' : World), Mod F w w' → PropsR S w' pv x.props → Calls Tryz.prog f #[x.args pv, .pointer (some c)] w' fun e w2 => e = .returned (.bool (p x)) ∧ Grow w' w2
theorem AsksM.asks {F : Nat → Prop} {f : Nat} {c : Addr} {p : PEdge → Bool} {w : World} (h : AsksM F f c p w) (S : Nat → Prop) : AsksE f c p S w :=
  ⟨h.1, fun x pv w' g hp => h.2 S x pv w' (Mod.of_grow g) hp⟩

theorem OwnS.clearTail {P : Program} {w : World} {E : TypeId} {sz : Nat} {v : Value} {n : Nat} {xs : List Value} {ob : Option Nat} (hown : OwnS w E sz v n xs ob) (t : TypeId) (z : Value)
    (ht : P.underlying t = some (.slice E)) (hz : ∀ w, (zeroValue E).run P w = .ok z w) (hzs : z.cells.size = sz) (h1 : ∀ v ∈ z.cells.toList, v.oneCell' = true) (i : Nat) (hi : i < n) :
    ∃ g cap w2, v = .slice (some ⟨g, 0, none⟩) n cap ∧ ob = some g ∧ n ≤ cap ∧ cap ≤ maxLen ∧
      (∀ ty, (Builtin.clear_ #[t] ty #[.slice (some ⟨g, i * sz, none⟩) (n - i) (cap - i)]).run P w = .ok (.tuple #[]) w2) ∧ OwnS w2 E sz (.slice (some ⟨g, 0, none⟩) i cap) i (xs.take (i * sz)) ob ∧ Mod (fun k => ob = some k) w w2 := by
  rcases hown.2 with ⟨_, _, h, _⟩ | ⟨g, cap, cur, rfl, rfl, hblk, hnc, hcm, hcs, htk⟩
  · omega
  have hsz : i * sz + (n - i) * sz ≤ cap * sz := by rw [← Nat.add_mul]; exact Nat.mul_le_mul_right _ (by omega)
  have hin : i * sz ≤ n * sz := Nat.mul_le_mul_right _ (by omega)
  have hnn : n * sz ≤ cap * sz := Nat.mul_le_mul_right _ hnc
  have hlc : cur.toList.length = cap * sz := by simpa using hcs
  obtain ⟨cs, hcsl, hcl⟩ := run_clear_row (P := P) w t 0 E z ht hz g (i * sz) (n - i) (cap - i) cur E hblk (by rw [hzs, hcs]; exact hsz) h1
  rw [hzs] at hcsl
  refine ⟨g, cap, _, rfl, rfl, hnc, hcm, fun ty => hcl, ⟨by rw [List.length_take, hown.1]; omega, .inr ⟨g, cap, _, rfl, rfl, setRow_heap w g cur _ E (0, 0) hblk, by omega, hcm, ?_, ?_⟩⟩, ⟨rfl, rfl, rfl, by simp, fun k hk hh => by rw [setRow_other _ _ _ _ (fun e => hh (by rw [e]))]⟩⟩
  · simp only [List.size_toArray, List.length_append, List.length_take, List.length_drop, hlc, hcsl]
    omega
  · rw [List.append_assoc]
    have e : (cur.toList.take (i * sz)).length = i * sz := by rw [List.length_take, hlc]; omega
    rw [show (cur.toList.take (i * sz) ++ (cs ++ cur.toList.drop (i * sz + cs.length))).toArray.toList.take (i * sz) = cur.toList.take (i * sz) by
      rw [List.toList_toArray, List.take_append_of_le_length (by omega), List.take_of_length_le (by omega)]]
    rw [← htk, List.take_take]
    congr 1
    omega

theorem flatten_set5 : ∀ (rows : List (List Value)) (k : Nat) (a b c d e : Value), (∀ r ∈ rows, r.length = 5) → k < rows.length →
    (((((rows.flatten.set (k * 5) a).set (k * 5 + 1) b).set (k * 5 + 2) c).set (k * 5 + 3) d).set (k * 5 + 4) e) = (rows.set k [a, b, c, d, e]).flatten
  | [], k, a, b, c, d, e, _, h => by simp at h
  | r :: rows, 0, a, b, c, d, e, h0, _ => by
    have h1 := h0 r (by simp)
    match r, h1 with
    | [r0, r1, r2, r3, r4], _ => simp
  | r :: rows, k + 1, a, b, c, d, e, h0, h => by
    have h1 := h0 r (by simp)
    have ih := flatten_set5 rows k a b c d e (fun r hr => h0 r (by simp [hr])) (by simpa using h)
    match r, h1 with
    | [r0, r1, r2, r3, r4], _ =>
      have q : (k + 1) * 5 = k * 5 + 5 := by omega
      have q1 : k * 5 + 5 + 1 = (k * 5 + 1) + 5 := by omega
      have q2 : k * 5 + 5 + 2 = (k * 5 + 2) + 5 := by omega
      have q3 : k * 5 + 5 + 3 = (k * 5 + 3) + 5 := by omega
      have q4 : k * 5 + 5 + 4 = (k * 5 + 4) + 5 := by omega
      rw [q, q1, q2, q3, q4]
      simp only [List.flatten_cons, List.set_cons_succ, List.cons_append, List.nil_append]
      rw [ih]

theorem OwnL.set5 {α : Type} {w w' : World} {E : TypeId} {R R' : α → List Value → Prop} {v : Value} {l : List α} {g k : Nat} {x : α} {a b c d e : Value} (h : OwnL w E 5 R v l (some g)) (hk : k < l.length)
    (hw : w' = (((((w.setCell ⟨g, k * 5, none⟩ a).setCell ⟨g, k * 5 + 1, none⟩ b).setCell ⟨g, k * 5 + 2, none⟩ c).setCell ⟨g, k * 5 + 3, none⟩ d).setCell ⟨g, k * 5 + 4, none⟩ e))
    (hx : R' x [a, b, c, d, e]) (hR : ∀ x r, x ∈ l → R x r → R' x r) : OwnL w' E 5 R' v (l.set k x) (some g) := by
  obtain ⟨rows, h1, hlen, h2, h3⟩ := h.rowLen
  refine ⟨rows.set k [a, b, c, d, e], by simp [h1], fun j y r hj hr => ?_, ?_⟩
  · rw [List.getElem?_set] at hj hr
    by_cases hjk : k = j
    · subst hjk
      rw [if_pos rfl] at hj hr
      rw [if_pos hk] at hj
      rw [if_pos (by omega)] at hr
      cases hj; cases hr
      exact ⟨hx, rfl⟩
    · rw [if_neg hjk] at hj hr
      obtain ⟨p, q⟩ := h2 j y r hj hr
      exact ⟨hR _ _ (List.mem_of_getElem? hj) p, q⟩
  · rw [← flatten_set5 rows k a b c d e hlen (by omega), hw, List.length_set]
    exact ((((h3.stored rfl _ _).stored rfl _ _).stored rfl _ _).stored rfl _ _).stored rfl _ _

theorem OwnL.row {α : Type} {w : World} {E : TypeId} {sz : Nat} {R : α → List Value → Prop} {v : Value} {l : List α} {g : Nat} (h : OwnL w E sz R v l (some g)) {k : Nat} {x : α} (hk : l[k]? = some x) :
    ∃ r, R x r ∧ r.length = sz ∧ ∀ (j : Nat) c, r[j]? = some c → w.cell? ⟨g, 0 + k * sz + j, none⟩ = some c := by
  obtain ⟨rows, h1, hlen, h2, h3⟩ := h.rowLen
  have hlt : k < l.length := (List.getElem?_eq_some_iff.1 hk).1
  obtain ⟨g', cap', hv, ho, hlt', hcell, _⟩ := h3.cell (by omega)
  cases ho
  have hr : rows[k]? = some (rows[k]'(by omega)) := List.getElem?_eq_getElem _
  refine ⟨_, (h2 k x _ hk hr).1, (h2 k x _ hk hr).2, fun j c hj => ?_⟩
  rw [Nat.zero_add]
  exact hcell _ _ (flatten_at rows sz k j _ c hlen hr hj)
theorem OwnL.slot {α : Type} {w : World} {E : TypeId} {sz : Nat} {R : α → List Value → Prop} {v : Value} {l : List α} {g : Nat} (h : OwnL w E sz R v l (some g)) {i t : Nat} (hi : i < l.length) (ht : t < sz) :
    (∃ u, w.cell? ⟨g, i * sz + t, none⟩ = some u) ∧ w.frozen? ⟨g, i * sz + t, none⟩ = false := by
  obtain ⟨_, _, _, h⟩ := h
  rcases h.2 with ⟨_, _, _, h, _⟩ | ⟨g', cap, cur, _, h, hh, hn, _, hc, _⟩
  · cases h
  · cases h
    refine ⟨?_, blk_free hh _⟩
    have : (i + 1) * sz ≤ cap * sz := Nat.mul_le_mul_right _ (by omega)
    rw [Nat.succ_mul] at this
    exact ⟨_, by rw [blk_cell hh]; exact Array.getElem?_eq_getElem (by omega)⟩
theorem Mod.set5 {F : Nat → Prop} {a w : World} (h : Mod F a w) {g : Nat} (hg : F g) (o0 o1 o2 o3 o4 : Nat) (v0 v1 v2 v3 v4 : Value) :
    Mod F a (((((w.setCell ⟨g, o0, none⟩ v0).setCell ⟨g, o1, none⟩ v1).setCell ⟨g, o2, none⟩ v2).setCell ⟨g, o3, none⟩ v3).setCell ⟨g, o4, none⟩ v4) :=
  ((((h.setd (p := ⟨g, o0, none⟩) (.inl hg) v0).setd (p := ⟨g, o1, none⟩) (.inl hg) v1).setd (p := ⟨g, o2, none⟩) (.inl hg) v2).setd (p := ⟨g, o3, none⟩) (.inl hg) v3).setd (p := ⟨g, o4, none⟩) (.inl hg) v4
theorem zeroEdge (w : World) : (zeroValue 91).run Tryz.prog w = .ok (.agg #[.int .i64 0, .string ByteArray.empty, .int .i64 0, .int .i64 0, .slice none 0 0]) w := by kernel_rfl

set_option maxRecDepth 100000 in
set_option maxHeartbeats 2000000 in
theorem deleteEdges (R : Nat → Prop) (v : Value) (l : List PEdge) (ob : Option Nat) (f : Nat) (c : Addr) (p : PEdge → Bool) (w : World) (hown : OwnL w 91 5 (REdge R w) v l ob) (hR : ∀ g, ob = some g → ¬ R g)
    (hp : AsksM (fun k => ob = some k) f c p w) (hb : l.length ≤ 1099511627776) :
    Calls Tryz.prog 94 #[v, .func (.func f) #[] #[.pointer (some c)]] w fun e w' =>
      ∃ v', e = .returned v' ∧ OwnL w' 91 5 (REdge R w') v' (l.filter fun x => !p x) ob ∧ Mod (fun k => ob = some k) w w' := by
  have HOWN := Lib.hid hown; have HR := Lib.hid hR; have HP := Lib.hid hp; have HB := Lib.hid hb
  have hcf := hp.1
  have hsl : EdgesR (fun b => ob = some b ∨ R b) w v l := SlR.sub (hown.toSl (S := fun b => ob = some b ∨ R b) (fun g hg => .inl hg)) (fun _ h => h) (fun x r _ hR => hR.sub (fun b hb => .inr hb))
  obtain ⟨oa, cap0, hv, hcap, hcm⟩ : ∃ oa cap, v = .slice oa l.length cap ∧ l.length ≤ cap ∧ cap ≤ maxLen := by obtain ⟨_, _, _, h⟩ := hown; exact h.isSlice
  have HSL := Lib.hid hsl
  have HI := Lib.hid (hp.asks (fun b => ob = some b ∨ R b))
  clear hown hR hp hsl hb
  subst hv
  unfold maxLen at hcm
  go_enter Tryz.func94, Tryz.ntmps94
  go_wp2_with fail
  refine (indexEdge (fun b => ob = some b ∨ R b) _ l f c p _ HSL.out HI.out).mono ?_
  rintro e w2 ⟨r, rfl, hr, hw2⟩
  rcases hr with ⟨rfl, hall⟩ | ⟨k, x0, rfl, hx, hpx, hk⟩
  · have HA := Lib.hid (show (l.filter fun x => !p x) = l from List.filter_eq_self.2 (fun x hx => by rw [hall x hx]; rfl))
    clear hall
    go_wp2
    go_ret
    refine ⟨_, rfl, ?_, Mod.of_grow hw2⟩
    rw [HA.out]
    exact HOWN.out.keep (fun g hg => hw2.heapEq (HOWN.out.lt g hg)) (fun x r _ hR => hR.mod (Mod.of_grow (F := fun _ => False) hw2) (fun _ _ => id))
  · obtain ⟨g, rfl⟩ : ∃ g, ob = some g := by
      rcases HOWN.out with ⟨_, _, _, _, ⟨_, _, h, _⟩ | ⟨g, _, _, _, h, _⟩⟩
      · rw [List.eq_nil_of_length_eq_zero h] at hx; simp at hx
      · exact ⟨g, h⟩
    have hkl : k < l.length := (List.getElem?_eq_some_iff.1 hx).1
    have hoa : oa = some ⟨g, 0, none⟩ := by
      rcases HOWN.out with ⟨_, _, _, _, ⟨_, _, _, h, _⟩ | ⟨g, _, _, h, h1, _⟩⟩
      · cases h
      · simp only [Value.slice.injEq] at h; cases h1; exact h.1
    subst hoa
    have hf0 : (l.take (k + 1)).filter (fun x => !p x) = l.take k := by
      have e : l.take (k + 1) = l.take k ++ [x0] := by rw [List.take_add_one, hx]; rfl
      rw [e, List.filter_append, List.filter_eq_self.2 (fun y hy => by rw [hk y hy]; rfl)]
      simp [hpx]
    have HF0 := Lib.hid hf0
    have HK0 := Lib.hid (show OwnL w2 91 5 (REdge R w2) (.slice (some ⟨g, 0, none⟩) l.length cap0) l (some g) from
      HOWN.out.keep (fun g hg => hw2.heapEq (HOWN.out.lt g hg)) (fun x r _ hR => hR.mod (Mod.of_grow (F := fun _ => False) hw2) (fun _ _ => id)))
    have HXX := Lib.hid hx
    have HM2 := Lib.hid (show Mod (fun k => some g = some k) w w2 from Mod.of_grow hw2)
    clear hx hpx hk hf0 hw2
    go_wp2
    go_loopg [5, 6] (l.length - (k + 1)) (fun gg vi vj wr => ∃ (di j : Nat) (mid : List PEdge), j ≤ l.length ∧ gg = l.length - j ∧ vi = .int .i64 di ∧ vj = .int .i64 j ∧ di + mid.length = j ∧ di = ((l.take j).filter fun x => !p x).length ∧ 0 < mid.length ∧
      OwnL wr 91 5 (REdge R wr) (.slice (some ⟨g, 0, none⟩) l.length cap0) (((l.take j).filter fun x => !p x) ++ mid ++ l.drop j) (some g) ∧ Mod (fun k => some g = some k) w wr)
    case atStart =>
      refine ⟨k, k + 1, [x0], by omega, by omega, rfl, by go_num, rfl, by rw [HF0.out, List.length_take]; omega, by simp, ?_, HM2.out⟩
      rw [HF0.out]
      have e : l.take k ++ [x0] ++ l.drop (k + 1) = l := by
        have e2 : l.drop k = x0 :: l.drop (k + 1) := by
          rw [List.drop_eq_getElem_cons hkl]
          congr 1
          have := HXX.out
          rw [List.getElem?_eq_getElem hkl] at this
          simpa using this
        rw [List.append_assoc, List.singleton_append, ← e2, List.take_append_drop]
      rw [e]
      exact HK0.out
    case round =>
      obtain ⟨di, j, mid, hj, rfl, rfl, rfl, hdm, hdi, hm0, hcur, hmod⟩ := hrel
      have HCUR := Lib.hid hcur; have HMOD := Lib.hid hmod; have HDI := Lib.hid hdi
      have hgb := hcur.lt g rfl
      have hlen : (((l.take j).filter fun x => !p x) ++ mid ++ l.drop j).length = l.length := by
        rw [List.length_append, List.length_append, List.length_drop, ← hdi]; omega
      by_cases hjl : j < l.length
      · have hlj : (((l.take j).filter fun x => !p x) ++ mid ++ l.drop j)[j]? = some l[j] := by
          rw [List.getElem?_append_right (by rw [List.length_append, ← hdi]; omega), List.length_append, ← hdi, hdm, Nat.sub_self, List.getElem?_drop, Nat.add_zero]
          exact List.getElem?_eq_getElem hjl
        obtain ⟨ra, hRa, -, hca⟩ := hcur.row hlj
        obtain ⟨pva, -, a0, a1, a2, a3, a4, hpa⟩ := hRa.at hgb (Grow.rfl' wr) hca
        have HT := Lib.hid (show l.take (j + 1) = l.take j ++ [l[j]] from List.take_succ_eq_append_getElem hjl)
        have HD := Lib.hid (show l.drop j = l[j] :: l.drop (j + 1) from List.drop_eq_getElem_cons hjl)
        have HLN := Lib.hid hlen
        clear hca hRa hcur hlj hmod hdi hlen
        simp only [Nat.zero_add] at a0 a1 a2 a3 a4
        generalize l[j] = x at *
        have HPA := Lib.hid hpa
        obtain ⟨pa, pc, rfl⟩ := hpa.isSlice
        clear hpa
        have hG : Grow wr (wr.alloc (.cells #[.int .i64 x.id, .string x.typ, .int .i64 x.from_, .int .i64 x.to_, .slice pa x.props.length pc] 91)) := (Grow.rfl' wr).allocd _
        have HG := Lib.hid hG
        cases hn : p x
        all_goals
          go_wp2_with fail
          refine (HP.out.2 R x _ _ (HMOD.out.step (Mod.of_grow HG.out)) (HPA.out.grow HG.out)).mono ?_
          rintro e w3 ⟨rfl, hw3⟩
          rw [hn]
        · have hg3 : Grow wr w3 := HG.out.step hw3
          have hown3 := HCUR.out.keep (R' := REdge R w3) (w' := w3) (fun g' hg' => hg3.heapEq (HCUR.out.lt g' hg')) (fun x r _ hR => hR.mod (Mod.of_grow (F := fun _ => False) hg3) (fun _ _ => id))
          have hsl : ∀ t, t < 5 → (∃ u, w3.cell? ⟨g, di * 5 + t, none⟩ = some u) ∧ w3.frozen? ⟨g, di * 5 + t, none⟩ = false := fun t ht => hown3.slot (by rw [HLN.out]; omega) ht
          obtain ⟨⟨u0, b0⟩, f0⟩ := hsl 0 (by omega)
          obtain ⟨⟨u1, b1⟩, f1⟩ := hsl 1 (by omega)
          obtain ⟨⟨u2, b2⟩, f2⟩ := hsl 2 (by omega)
          obtain ⟨⟨u3, b3⟩, f3⟩ := hsl 3 (by omega)
          obtain ⟨⟨u4, b4⟩, f4⟩ := hsl 4 (by omega)
          rw [Nat.add_zero] at b0 f0
          have hnb : w3.heap[wr.heap.size]? = some (.cells #[.int .i64 x.id, .string x.typ, .int .i64 x.from_, .int .i64 x.to_, .slice pa x.props.length pc] 91 (0, 0)) := by
            rw [hw3.heapEq (by simp)]; exact heap_alloc_new wr _
          have n0 : w3.cell? ⟨wr.heap.size, 0, none⟩ = some (.int .i64 x.id) := by rw [blk_cell hnb]; rfl
          have n1 : w3.cell? ⟨wr.heap.size, 1, none⟩ = some (.string x.typ) := by rw [blk_cell hnb]; rfl
          have n2 : w3.cell? ⟨wr.heap.size, 2, none⟩ = some (.int .i64 x.from_) := by rw [blk_cell hnb]; rfl
          have n3 : w3.cell? ⟨wr.heap.size, 3, none⟩ = some (.int .i64 x.to_) := by rw [blk_cell hnb]; rfl
          have n4 : w3.cell? ⟨wr.heap.size, 4, none⟩ = some (.slice pa x.props.length pc) := by rw [blk_cell hnb]; rfl
          have HOWN3 := Lib.hid hown3; have HG3 := Lib.hid hg3; have HPA3 := Lib.hid (HPA.out.grow (HG.out.step hw3))
          have hdl : di < l.length := by omega
          have HDM := Lib.hid hdm
          clear hown3 hg3 hsl hnb hw3
          go_wp2_with fail
          go_roundg (l.length - (j + 1))
          case measure => omega
          case rel =>
            obtain ⟨m0, mid', rfl⟩ : ∃ m0 mid', mid = m0 :: mid' := by
              cases mid with
              | nil => simp at hm0
              | cons a b => exact ⟨a, b, rfl⟩
            have hf : (l.take (j + 1)).filter (fun x => !p x) = (l.take j).filter (fun x => !p x) ++ [x] := by rw [HT.out, List.filter_append]; simp [hn]
            have hm : Mod (fun k => some g = some k) w w3 := HMOD.out.step (Mod.of_grow HG3.out)
            refine ⟨di + 1, j + 1, mid' ++ [x], by omega, rfl, by go_num, by go_num, by have := HDM.out; simp at this ⊢; omega, by rw [hf, List.length_append, ← HDI.out]; rfl, by simp, ?_, hm.set5 (g := g) rfl _ _ _ _ _ _ _ _ _ _⟩
            have hset : ((l.take j).filter (fun x => !p x) ++ (m0 :: mid') ++ l.drop j).set di x = (l.take (j + 1)).filter (fun x => !p x) ++ (mid' ++ [x]) ++ l.drop (j + 1) := by
              rw [hf, HD.out, HDI.out, List.append_assoc, List.set_append_right _ _ (Nat.le_refl _), Nat.sub_self]
              simp
            rw [← hset]
            have hk : ∀ b, R b → ¬ (fun k => some g = some k) b := fun b hb hh => HR.out b hh hb
            have hms : ∀ a b c d e, Mod (fun k => some g = some k) w3 (((((w3.setCell ⟨g, di * 5, none⟩ a).setCell ⟨g, di * 5 + 1, none⟩ b).setCell ⟨g, di * 5 + 2, none⟩ c).setCell ⟨g, di * 5 + 3, none⟩ d).setCell ⟨g, di * 5 + 4, none⟩ e) :=
              fun a b c d e => (Mod.rfl' (fun k => some g = some k) w3).set5 (g := g) rfl _ _ _ _ _ _ _ _ _ _
            exact HOWN3.out.set5 (by rw [HLN.out]; exact hdl) rfl ⟨_, rfl, HPA3.out.mod (hms _ _ _ _ _) hk⟩ (fun y r _ hR => hR.mod (hms _ _ _ _ _) hk)
        · go_wp2_with fail
          go_roundg (l.length - (j + 1))
          case measure => omega
          case rel =>
            have hg3 : Grow wr w3 := HG.out.step hw3
            have hf : (l.take (j + 1)).filter (fun x => !p x) = (l.take j).filter (fun x => !p x) := by rw [HT.out, List.filter_append]; simp [hn]
            have hown3 := HCUR.out.keep (R' := REdge R w3) (w' := w3) (fun g' hg' => hg3.heapEq (HCUR.out.lt g' hg')) (fun x r _ hR => hR.mod (Mod.of_grow (F := fun _ => False) hg3) (fun _ _ => id))
            refine ⟨di, j + 1, mid ++ [x], by omega, rfl, rfl, by go_num, by rw [List.length_append]; simp; omega, by rw [hf]; exact HDI.out, by simp, ?_, HMOD.out.step (Mod.of_grow hg3)⟩
            rw [HD.out] at hown3
            rw [hf]
            simpa using hown3
      · have hje : j = l.length := by omega
        subst hje
        have hL : OwnL wr 91 5 (REdge R wr) (.slice (some ⟨g, 0, none⟩) l.length cap0) ((l.filter fun x => !p x) ++ mid) (some g) := by
          have := hcur
          rw [List.take_length, List.drop_length, List.append_nil] at this
          exact this
        rw [List.take_length] at hdi
        have hln : ((l.filter fun x => !p x) ++ mid).length = l.length := by rw [List.length_append, ← hdi]; exact hdm
        obtain ⟨rows, hr1, hr2, hr3, hos⟩ := hL.rowLen
        obtain ⟨g', cap', w2, hv, ho, _, _, hcl, hos2, hm2⟩ := hos.clearTail (P := Tryz.prog) 84 _ Tryz.underlying84 zeroEdge rfl (by decide) di (by rw [hln]; omega)
        cases ho
        simp only [Value.slice.injEq, true_and] at hv
        obtain ⟨-, rfl⟩ := hv
        rw [hln] at hcl
        have HFIN := Lib.hid (show OwnL w2 91 5 (REdge R w2) (.slice (some ⟨g, 0, none⟩) di cap0) (l.filter fun x => !p x) (some g) by
          refine ⟨rows.take di, by rw [List.length_take, hr1, hln, ← hdi]; omega, fun k x r hk hr => ?_, ?_⟩
          · have hkd : k < di := by rw [hdi]; exact (List.getElem?_eq_some_iff.1 hk).1
            rw [List.getElem?_take, if_pos hkd] at hr
            obtain ⟨a, b⟩ := hr3 k x r (by rw [List.getElem?_append_left (by rw [← hdi]; exact hkd)]; exact hk) hr
            exact ⟨a.mod hm2 (fun b hb hh => HR.out b hh hb), b⟩
          · rw [← hdi]
            have e : (rows.take di).flatten = rows.flatten.take (di * 5) := by
              have h1 : rows.flatten = (rows.take di).flatten ++ (rows.drop di).flatten := by rw [← List.flatten_append, List.take_append_drop]
              have h2 : (rows.take di).flatten.length = di * 5 := by
                rw [flatten_len _ 5 (fun r hr => hr2 r (List.mem_of_mem_take hr)), List.length_take, hr1, hln]
                congr 1
                omega
              rw [h1, ← h2, List.take_left]
            rw [e]
            exact hos2)
        have HM := Lib.hid (show Mod (fun k => some g = some k) w w2 from HMOD.out.step hm2)
        have hc1 : ¬ cap0 = di := by omega
        have hc2 : ((di : Nat) : Int) ≤ ((l.length : Nat) : Int) := by omega
        have hc3 : ((di : Nat) : Int) ≤ ((cap0 : Nat) : Int) := by omega
        clear hL hln hr1 hr2 hr3 hos hos2 hm2 hcur hmod hdi
        go_wp2
        go_ret
        exact ⟨_, rfl, HFIN.out, HM.out⟩
end Go.Hg

namespace Go.Hg
open Go.RowKit Go.Proofs

theorem step_append_S {P : Program} {ops : Array Oper} {o : Oper} {a : Act} {w : World} {K : Act → World → Prop} {Q : Exit → Act → World → Prop} {E : Prop} (hgd : o.guard = none) (s x : Operand) (t : TypeId)
    (ho : o.op = .call { callee := .builtin .append, args := #[s, x], argTypes := #[t, t] })
    (e : TypeId) (i : TypeInfo) (z : Value) (size bytes : Nat) (ht : P.underlying t = some (.slice e)) (hi : P.info? e = some i) (hz : i.zero = some z)
    (hsize : i.size = size) (hby : i.bytes = bytes) (hzs : z.cells.size = size) (hsz : 0 < size)
    (v : Value) (n : Nat) (xs : List Value) (ob : Option Nat) (hs : a.eval s = v) (hown : OwnS w e size v n xs ob)
    (xv : Value) (hxv : a.eval x = xv) (m : Nat) (news : List Value) (hx : Rd w size xv m news) (h1 : ∀ u ∈ news, u.oneCell' = true)
    (h63 : n + m ≤ maxLen) (hbytes : (n + m) * bytes ≤ 140737488355328)
    (h : ∀ v' w' ob', OwnS w' e size v' (n + m) (xs ++ news) ob' → Mod (fun k => ob = some k) w w' → (ob' = ob ∨ ∃ g, ob' = some g ∧ w.heap.size ≤ g) → (m = 0 → v' = v) → K (a.put o.dst v') w') :
    if Region.wanted o (yielded ops a.tmps) = true then Oper.wp P o a w K Q else E := by
  have hw : Region.wanted o (yielded ops a.tmps) = true := by simp [Region.wanted, hgd]
  rw [if_pos hw]
  exact wp_append_S w s x t ho e i z size bytes ht hi hz hsize hby hzs hsz v n xs ob hs hown xv hxv m news hx h1 h63 hbytes h

theorem PropsR.nil (S : Nat → Prop) (w : World) : PropsR S w (.slice none 0 0) [] := (OwnL.nil w 105 4 RProp).toSl (by simp)

theorem GraphOk.parts {T : TypeId} {S : Nat → Prop} {w : World} {B : Nat} {G : PGraph} (h : GraphOk T S w B G) (hn : T ≠ 89) (he : T ≠ 91) :
    ∃ (nv ev : Value) (R : Nat → Prop) (on oe : Option Nat), w.heap[B]? = some (.cells #[nv, ev, .int .i64 G.next] T (0, 0)) ∧ S B ∧ ¬ R B ∧ (∀ b, R b → S b ∧ b < w.heap.size) ∧
    (∀ g, on = some g → S g ∧ ¬ R g ∧ g ≠ B ∧ g < w.heap.size ∧ oe ≠ some g) ∧ (∀ g, oe = some g → S g ∧ ¬ R g ∧ g ≠ B ∧ g < w.heap.size ∧ on ≠ some g) ∧ OwnL w 89 3 (RNode R w) nv G.nodes on ∧ OwnL w 91 5 (REdge R w) ev G.edges oe := by
  obtain ⟨nv, ev, R, on, oe, h1, h2, h3, h4, h5, h6, h7, h8⟩ := h
  refine ⟨nv, ev, R, on, oe, h1, h2, h3, h4, fun g hg => ⟨(h5 g hg).1, (h5 g hg).2, ?_, h7.lt g hg, ?_⟩, fun g hg => ⟨(h6 g hg).1, (h6 g hg).2, ?_, h8.lt g hg, ?_⟩, h7, h8⟩
  · rintro rfl
    obtain ⟨cs, hcs⟩ := h7.blkE _ hg
    rw [h1] at hcs
    simp only [Option.some.injEq, Obj.cells.injEq] at hcs
    exact hn hcs.2.1
  · intro hg'
    obtain ⟨cs, hcs⟩ := h7.blkE _ hg
    obtain ⟨cs', hcs'⟩ := h8.blkE _ hg'
    rw [hcs] at hcs'
    simp only [Option.some.injEq, Obj.cells.injEq] at hcs'
    exact absurd hcs'.2.1 (by decide)
  · rintro rfl
    obtain ⟨cs, hcs⟩ := h8.blkE _ hg
    rw [h1] at hcs
    simp only [Option.some.injEq, Obj.cells.injEq] at hcs
    exact he hcs.2.1
  · intro hg'
    obtain ⟨cs, hcs⟩ := h8.blkE _ hg
    obtain ⟨cs', hcs'⟩ := h7.blkE _ hg'
    rw [hcs] at hcs'
    simp only [Option.some.injEq, Obj.cells.injEq] at hcs'
    exact absurd hcs'.2.1 (by decide)
theorem OwnL.nodesMod {F R : Nat → Prop} {w w' : World} {E : TypeId} {sz : Nat} {v : Value} {l : List PNode} {ob : Option Nat} (h : OwnL w E sz (RNode R w) v l ob) (m : Mod F w w') (h1 : ∀ g, ob = some g → ¬ F g) (h2 : ∀ b, R b → ¬ F b) :
    OwnL w' E sz (RNode R w') v l ob := h.keep (fun g hg => m.block g (h.lt g hg) (h1 g hg)) (fun _ _ _ hR => hR.mod m h2)
theorem OwnL.edgesMod {F R : Nat → Prop} {w w' : World} {E : TypeId} {sz : Nat} {v : Value} {l : List PEdge} {ob : Option Nat} (h : OwnL w E sz (REdge R w) v l ob) (m : Mod F w w') (h1 : ∀ g, ob = some g → ¬ F g) (h2 : ∀ b, R b → ¬ F b) :
    OwnL w' E sz (REdge R w') v l ob := h.keep (fun g hg => m.block g (h.lt g hg) (h1 g hg)) (fun _ _ _ hR => hR.mod m h2)

theorem addNode_close {T : TypeId} {S R : Nat → Prop} {w wA w5 : World} {B : Nat} {G : PGraph} {on oe on5 : Option Nat} {nv ev v5 : Value} {rows : List (List Value)} {o : POp}
    (h2 : S B) (h3 : ¬ R B) (h4 : ∀ b, R b → S b ∧ b < w.heap.size) (h5 : ∀ g, on = some g → S g ∧ ¬ R g ∧ g ≠ B ∧ g < w.heap.size ∧ oe ≠ some g) (h6 : ∀ g, oe = some g → S g ∧ ¬ R g ∧ g ≠ B ∧ g < w.heap.size ∧ on ≠ some g)
    (h8 : OwnL w 91 5 (REdge R w) ev G.edges oe) (r1 : rows.length = G.nodes.length) (r3 : ∀ (k : Nat) x r, G.nodes[k]? = some x → rows[k]? = some r → RNode R w x r ∧ r.length = 3)
    (hA : Mod (fun b => b = B) w wA) (k1 : OwnS w5 89 3 v5 (G.nodes.length + 1) (rows.flatten ++ [.int .i64 G.next, .string o.typ, .slice none 0 0]) on5) (k2 : Mod (fun k => on = some k) wA w5)
    (k3 : on5 = on ∨ ∃ g, on5 = some g ∧ wA.heap.size ≤ g) (hb : w5.heap[B]? = some (.cells #[nv, ev, .int .i64 (G.next + 1)] T (0, 0))) (hBw : B < w.heap.size) :
    GraphOk T (fun b => S b ∨ w.heap.size ≤ b) (w5.setCell ⟨B, 0, none⟩ v5) B (addNodeG o G) ∧ Mod S w (w5.setCell ⟨B, 0, none⟩ v5) := by
  have m5 : Mod (fun b => b = B ∨ on = some b) w w5 := (hA.mono (fun _ h => .inl h)).step (k2.mono (fun _ h => .inr h))
  have m6 : Mod (fun b => b = B ∨ on = some b) w (w5.setCell ⟨B, 0, none⟩ v5) := m5.setd (p := ⟨B, 0, none⟩) (.inl (.inl rfl)) v5
  have ms : Mod (fun b => b = B) w5 (w5.setCell ⟨B, 0, none⟩ v5) := (Mod.rfl' (fun b => b = B) w5).setd (p := ⟨B, 0, none⟩) (.inl rfl) v5
  have hsz := hA.size
  have hR : ∀ b, R b → ¬ (b = B ∨ on = some b) := fun b hb h => h.elim (fun e => h3 (e ▸ hb)) (fun e => (h5 b e).2.1 hb)
  have h5B : ∀ g, on5 = some g → g ≠ B ∧ (S g ∨ w.heap.size ≤ g) ∧ ¬ R g := by
    intro g hg
    rcases k3 with k3 | ⟨g', k3, hge⟩
    · rw [k3] at hg
      exact ⟨(h5 g hg).2.2.1, .inl (h5 g hg).1, (h5 g hg).2.1⟩
    · rw [k3] at hg; cases hg
      exact ⟨by omega, .inr (by omega), fun hh => by have := (h4 _ hh).2; omega⟩
  refine ⟨⟨v5, ev, R, on5, oe, ?_, .inl h2, h3, fun b hb => ⟨.inl (h4 b hb).1, Nat.lt_of_lt_of_le (h4 b hb).2 m6.size⟩, fun g hg => (h5B g hg).2, fun g hg => ⟨.inl (h6 g hg).1, (h6 g hg).2.1⟩, ?_, ?_⟩, m6.mono (fun b hb => hb.elim (fun e => e ▸ h2) (fun e => (h5 b e).1))⟩
  · exact heap_setCell_same w5 B 0 _ T v5 hb
  · refine ⟨rows ++ [[.int .i64 G.next, .string o.typ, .slice none 0 0]], by show _ = (G.nodes ++ [_]).length; simp [r1], fun k y r hk hk' => ?_, ?_⟩
    · change (G.nodes ++ [_])[k]? = some y at hk
      by_cases hlt : k < G.nodes.length
      · rw [List.getElem?_append_left hlt] at hk
        rw [List.getElem?_append_left (by omega)] at hk'
        obtain ⟨a, b⟩ := r3 k y r hk hk'
        exact ⟨a.mod m6 hR, b⟩
      · rw [List.getElem?_append_right (by omega)] at hk
        rw [List.getElem?_append_right (by omega), r1] at hk'
        have e : k - G.nodes.length = 0 := by have := (List.getElem?_eq_some_iff.1 hk).1; simp at this; omega
        rw [e] at hk hk'
        simp at hk hk'
        subst hk; subst hk'
        exact ⟨⟨_, rfl, PropsR.nil _ _⟩, rfl⟩
    · have h := k1.keep (w' := w5.setCell ⟨B, 0, none⟩ v5) (fun g hg => ms.block g (k1.lt g hg) (h5B g hg).1)
      show OwnS _ _ _ _ (G.nodes ++ [_]).length _ _
      rw [List.length_append, List.length_singleton]
      simpa using h
  · exact h8.edgesMod m6 (fun g hg h => h.elim (h6 g hg).2.2.1 (h6 g hg).2.2.2.2) hR

set_option maxRecDepth 100000 in
set_option maxHeartbeats 2000000 in
theorem addNode (S : Nat → Prop) (B : Nat) (G : PGraph) (o : POp) (w : World) (h : GraphOk 101 S w B G) (hG : GInv G) (hf : fullG G = false) :
    Calls Tryz.prog 83 #[.pointer (some ⟨B, 0, none⟩), o.args] w fun e w' => e = .returned (.int .i64 G.next) ∧ GraphOk 101 (fun b => S b ∨ w.heap.size ≤ b) w' B (addNodeG o G) ∧ Mod S w w' := by
  obtain ⟨iP, hiP, hzP0, hzP1, hzP2⟩ := info_parts infoNode
  obtain ⟨nv, ev, R, on, oe, h1, h2, h3, h4, h5, h6, h7, h8⟩ := h.parts (by decide) (by decide)
  obtain ⟨hx1, hx2⟩ := full_no hf
  have H2 := Lib.hid h2; have H3 := Lib.hid h3; have H4 := Lib.hid h4; have H5 := Lib.hid h5; have H6 := Lib.hid h6; have H7 := Lib.hid h7; have H8 := Lib.hid h8
  have HLN := Lib.hid hx1
  have HN0 := Lib.hid hG.next0
  have HW := Lib.hid (show ∀ o1, Grow w (w.alloc o1) from fun o1 => (Grow.rfl' w).allocd o1)
  have HOP := Lib.hid (show OpAt (w.alloc (.cells o.cells.toArray 35)) w.heap.size o from heap_alloc_new w _)
  have HB0 := Lib.hid h1
  have hBs : B < w.heap.size := blk_lt h1
  clear h h2 h3 h4 h5 h6 h7 h8 hx1 hG hf h1
  go_enter Tryz.func83, Tryz.ntmps83
  go_wp2_with fail
  refine (graphGiven B nv ev G.next _ (((HW.out _).heapEq hBs).trans HB0.out) HN0.out (by omega)).mono ?_
  rintro e w2 ⟨rfl, hb2, hm2⟩
  have HM2 := Lib.hid hm2; have HB2 := Lib.hid hb2
  have HM02 := Lib.hid (show Mod (fun b => b = B) w w2 from (Mod.of_grow (HW.out _)).step hm2)
  obtain ⟨hlt2, -, -, c2, -⟩ := (HOP.out.mod hm2 (by omega)).at
  obtain ⟨oa, cap, hnv⟩ : ∃ oa cap, nv = .slice oa G.nodes.length cap := by obtain ⟨_, _, _, h⟩ := H7.out; obtain ⟨oa, cap, h, _⟩ := h.isSlice; exact ⟨oa, cap, h⟩
  subst hnv
  have hB2 : B < w2.heap.size := blk_lt hb2
  have g0 : w2.cell? ⟨B, 0, none⟩ = some (.slice oa G.nodes.length cap) := by rw [blk_cell hb2]; rfl
  have f0 := blk_free hb2 0
  clear hb2 hm2
  obtain ⟨rows, hr1, hr2, hr3, hos⟩ := H7.out.rowLen
  have HOS := Lib.hid (show ∀ o1, OwnS (w2.drew.alloc o1) 89 3 (.slice oa G.nodes.length cap) G.nodes.length rows.flatten on from fun o1 =>
    (hos.keep (fun g hg => HM02.out.block g (hos.lt g hg) (H5.out g hg).2.2.1)).grow (((Grow.rfl' w2).drewd).allocd o1))
  have HR2 := Lib.hid hr2; have HR3 := Lib.hid hr3; have HR1 := Lib.hid hr1
  have HRD := Lib.hid (Rd.lit w2.drew #[.int .i64 G.next, .string o.typ, .slice none 0 0] 89 3 1 rfl)
  have HBK := Lib.hid (show ∀ o1, (w2.drew.alloc o1).heap[B]? = some (.cells #[.slice oa G.nodes.length cap, ev, .int .i64 (G.next + 1)] 101 (0, 0)) from fun o1 => ((((Grow.rfl' w2).drewd).allocd o1).heapEq hB2).trans HB2.out)
  clear hr1 hr2 hr3 hos
  go_wp2_with fail
  go_region_law (refine step_append_S rfl (.tmp 12) (.tmp 17) 59 rfl 89 iP _ 3 48 Tryz.underlying59 hiP hzP0 hzP1 hzP2 rfl (by decide) (.slice oa G.nodes.length cap) G.nodes.length rows.flatten on (by simp [Act.eval]) (HOS.out _) (.slice (some ⟨w2.heap.size, 0, none⟩) 1 1) (by simp [Act.eval]) 1 _ HRD.out (by intro u hu; simp only [List.mem_cons, List.not_mem_nil, or_false] at hu; rcases hu with rfl | rfl | rfl <;> rfl) (by have := HLN.out; unfold maxLen; omega) (by have := HLN.out; omega) ?_; intro v5 w5 on5 k1 k2 k3 k4; obtain ⟨oa5, cap5, rfl, -, -⟩ := k1.isSlice; have K1 := Lib.hid k1; have K2 := Lib.hid k2; have K3 := Lib.hid k3; have hb5 := (k2.block B (Nat.lt_of_lt_of_le hB2 ((((Grow.rfl' w2).drewd).allocd _).size)) (fun hh => (H5.out B hh).2.2.1 rfl)).trans (HBK.out _); have HB5 := Lib.hid hb5; have hB5 := blk_lt hb5; have q0 : w5.cell? ⟨B, 0, none⟩ = some (.slice oa G.nodes.length cap) := (blk_cell hb5 0).trans rfl; have qf := blk_free hb5 0; clear hb5 k1 k2 k3 k4)
  all_goals
    go_wp2
    go_ret
    have hcl := addNode_close (o := o) H2.out H3.out H4.out H5.out H6.out H8.out HR1.out HR3.out (HM02.out.step (Mod.of_grow (Grow.drewd (Grow.allocd (Grow.rfl' w2) _)))) K1.out K2.out K3.out HB5.out hBs
    exact ⟨rfl, hcl⟩
theorem addEdge_close {T : TypeId} {S R : Nat → Prop} {w wA w5 : World} {B : Nat} {G : PGraph} {on oe oe5 : Option Nat} {nv ev v5 : Value} {rows : List (List Value)} {o : POp}
    (h2 : S B) (h3 : ¬ R B) (h4 : ∀ b, R b → S b ∧ b < w.heap.size) (h5 : ∀ g, on = some g → S g ∧ ¬ R g ∧ g ≠ B ∧ g < w.heap.size ∧ oe ≠ some g) (h6 : ∀ g, oe = some g → S g ∧ ¬ R g ∧ g ≠ B ∧ g < w.heap.size ∧ on ≠ some g)
    (h7 : OwnL w 89 3 (RNode R w) nv G.nodes on) (r1 : rows.length = G.edges.length) (r3 : ∀ (k : Nat) x r, G.edges[k]? = some x → rows[k]? = some r → REdge R w x r ∧ r.length = 5)
    (hA : Mod (fun b => b = B) w wA) (k1 : OwnS w5 91 5 v5 (G.edges.length + 1) (rows.flatten ++ [.int .i64 G.next, .string o.typ, .int .i64 o.from_, .int .i64 o.to_, .slice none 0 0]) oe5) (k2 : Mod (fun k => oe = some k) wA w5)
    (k3 : oe5 = oe ∨ ∃ g, oe5 = some g ∧ wA.heap.size ≤ g) (hb : w5.heap[B]? = some (.cells #[nv, ev, .int .i64 (G.next + 1)] T (0, 0))) (hBw : B < w.heap.size) :
    GraphOk T (fun b => S b ∨ w.heap.size ≤ b) (w5.setCell ⟨B, 1, none⟩ v5) B (addEdgeG o G) ∧ Mod S w (w5.setCell ⟨B, 1, none⟩ v5) := by
  have m5 : Mod (fun b => b = B ∨ oe = some b) w w5 := (hA.mono (fun _ h => .inl h)).step (k2.mono (fun _ h => .inr h))
  have m6 : Mod (fun b => b = B ∨ oe = some b) w (w5.setCell ⟨B, 1, none⟩ v5) := m5.setd (p := ⟨B, 1, none⟩) (.inl (.inl rfl)) v5
  have ms : Mod (fun b => b = B) w5 (w5.setCell ⟨B, 1, none⟩ v5) := (Mod.rfl' (fun b => b = B) w5).setd (p := ⟨B, 1, none⟩) (.inl rfl) v5
  have hsz := hA.size
  have hR : ∀ b, R b → ¬ (b = B ∨ oe = some b) := fun b hb h => h.elim (fun e => h3 (e ▸ hb)) (fun e => (h6 b e).2.1 hb)
  have h5B : ∀ g, oe5 = some g → g ≠ B ∧ (S g ∨ w.heap.size ≤ g) ∧ ¬ R g := by
    intro g hg
    rcases k3 with k3 | ⟨g', k3, hge⟩
    · rw [k3] at hg
      exact ⟨(h6 g hg).2.2.1, .inl (h6 g hg).1, (h6 g hg).2.1⟩
    · rw [k3] at hg; cases hg
      exact ⟨by omega, .inr (by omega), fun hh => by have := (h4 _ hh).2; omega⟩
  refine ⟨⟨nv, v5, R, on, oe5, ?_, .inl h2, h3, fun b hb => ⟨.inl (h4 b hb).1, Nat.lt_of_lt_of_le (h4 b hb).2 m6.size⟩, fun g hg => ⟨.inl (h5 g hg).1, (h5 g hg).2.1⟩, fun g hg => (h5B g hg).2, ?_, ?_⟩, m6.mono (fun b hb => hb.elim (fun e => e ▸ h2) (fun e => (h6 b e).1))⟩
  · exact heap_setCell_same w5 B 1 _ T v5 hb
  · exact h7.nodesMod m6 (fun g hg h => h.elim (h5 g hg).2.2.1 (h5 g hg).2.2.2.2) hR
  · refine ⟨rows ++ [[.int .i64 G.next, .string o.typ, .int .i64 o.from_, .int .i64 o.to_, .slice none 0 0]], by show _ = (G.edges ++ [_]).length; simp [r1], fun k y r hk hk' => ?_, ?_⟩
    · change (G.edges ++ [_])[k]? = some y at hk
      by_cases hlt : k < G.edges.length
      · rw [List.getElem?_append_left hlt] at hk
        rw [List.getElem?_append_left (by omega)] at hk'
        obtain ⟨a, b⟩ := r3 k y r hk hk'
        exact ⟨a.mod m6 hR, b⟩
      · rw [List.getElem?_append_right (by omega)] at hk
        rw [List.getElem?_append_right (by omega), r1] at hk'
        have e : k - G.edges.length = 0 := by have := (List.getElem?_eq_some_iff.1 hk).1; simp at this; omega
        rw [e] at hk hk'
        simp at hk hk'
        subst hk; subst hk'
        exact ⟨⟨_, rfl, PropsR.nil _ _⟩, rfl⟩
    · have h := k1.keep (w' := w5.setCell ⟨B, 1, none⟩ v5) (fun g hg => ms.block g (k1.lt g hg) (h5B g hg).1)
      show OwnS _ _ _ _ (G.edges ++ [_]).length _ _
      rw [List.length_append, List.length_singleton]
      simpa using h

set_option maxRecDepth 100000 in
set_option maxHeartbeats 2000000 in
theorem addEdge (S : Nat → Prop) (B : Nat) (G : PGraph) (o : POp) (w : World) (h : GraphOk 101 S w B G) (hG : GInv G) (hf : fullG G = false) :
    Calls Tryz.prog 87 #[.pointer (some ⟨B, 0, none⟩), o.args] w fun e w' => e = .returned (.int .i64 G.next) ∧ GraphOk 101 (fun b => S b ∨ w.heap.size ≤ b) w' B (addEdgeG o G) ∧ Mod S w w' := by
  obtain ⟨iP, hiP, hzP0, hzP1, hzP2⟩ := info_parts infoEdge
  obtain ⟨nv, ev, R, on, oe, h1, h2, h3, h4, h5, h6, h7, h8⟩ := h.parts (by decide) (by decide)
  obtain ⟨hx1, hx2⟩ := full_no hf
  have H2 := Lib.hid h2; have H3 := Lib.hid h3; have H4 := Lib.hid h4; have H5 := Lib.hid h5; have H6 := Lib.hid h6; have H7 := Lib.hid h7; have H8 := Lib.hid h8
  have HLN := Lib.hid hx1
  have HN0 := Lib.hid hG.next0
  have HW := Lib.hid (show ∀ o1, Grow w (w.alloc o1) from fun o1 => (Grow.rfl' w).allocd o1)
  have HOP := Lib.hid (show OpAt (w.alloc (.cells o.cells.toArray 35)) w.heap.size o from heap_alloc_new w _)
  have HB0 := Lib.hid h1
  have hBs : B < w.heap.size := blk_lt h1
  clear h h2 h3 h4 h5 h6 h7 h8 hx1 hG hf h1
  go_enter Tryz.func87, Tryz.ntmps87
  go_wp2_with fail
  refine (graphGiven B nv ev G.next _ (((HW.out _).heapEq hBs).trans HB0.out) HN0.out (by omega)).mono ?_
  rintro e w2 ⟨rfl, hb2, hm2⟩
  have HM2 := Lib.hid hm2; have HB2 := Lib.hid hb2
  have HM02 := Lib.hid (show Mod (fun b => b = B) w w2 from (Mod.of_grow (HW.out _)).step hm2)
  obtain ⟨hlt2, -, -, c2, c3, c4, -⟩ := (HOP.out.mod hm2 (by omega)).at
  obtain ⟨oa, cap, hev⟩ : ∃ oa cap, ev = .slice oa G.edges.length cap := by obtain ⟨_, _, _, h⟩ := H8.out; obtain ⟨oa, cap, h, _⟩ := h.isSlice; exact ⟨oa, cap, h⟩
  subst hev
  have hB2 : B < w2.heap.size := blk_lt hb2
  have g0 : w2.cell? ⟨B, 1, none⟩ = some (.slice oa G.edges.length cap) := by rw [blk_cell hb2]; rfl
  have f0 := blk_free hb2 1
  clear hb2 hm2
  obtain ⟨rows, hr1, hr2, hr3, hos⟩ := H8.out.rowLen
  have HOS := Lib.hid (show ∀ o1, OwnS (w2.drew.alloc o1) 91 5 (.slice oa G.edges.length cap) G.edges.length rows.flatten oe from fun o1 =>
    (hos.keep (fun g hg => HM02.out.block g (hos.lt g hg) (H6.out g hg).2.2.1)).grow (((Grow.rfl' w2).drewd).allocd o1))
  have HR2 := Lib.hid hr2; have HR3 := Lib.hid hr3; have HR1 := Lib.hid hr1
  have HRD := Lib.hid (Rd.lit w2.drew #[.int .i64 G.next, .string o.typ, .int .i64 o.from_, .int .i64 o.to_, .slice none 0 0] 91 5 1 rfl)
  have HBK := Lib.hid (show ∀ o1, (w2.drew.alloc o1).heap[B]? = some (.cells #[nv, .slice oa G.edges.length cap, .int .i64 (G.next + 1)] 101 (0, 0)) from fun o1 => ((((Grow.rfl' w2).drewd).allocd o1).heapEq hB2).trans HB2.out)
  clear hr1 hr2 hr3 hos
  go_wp2_with fail
  go_region_law (refine step_append_S rfl (.tmp 12) (.tmp 21) 84 rfl 91 iP _ 5 64 Tryz.underlying84 hiP hzP0 hzP1 hzP2 rfl (by decide) (.slice oa G.edges.length cap) G.edges.length rows.flatten oe (by simp [Act.eval]) (HOS.out _) (.slice (some ⟨w2.heap.size, 0, none⟩) 1 1) (by simp [Act.eval]) 1 _ HRD.out (by intro u hu; simp only [List.mem_cons, List.not_mem_nil, or_false] at hu; rcases hu with rfl | rfl | rfl | rfl | rfl <;> rfl) (by have := HLN.out; unfold maxLen; omega) (by have := HLN.out; omega) ?_; intro v5 w5 oe5 k1 k2 k3 k4; obtain ⟨oa5, cap5, rfl, -, -⟩ := k1.isSlice; have K1 := Lib.hid k1; have K2 := Lib.hid k2; have K3 := Lib.hid k3; have hb5 := (k2.block B (Nat.lt_of_lt_of_le hB2 ((((Grow.rfl' w2).drewd).allocd _).size)) (fun hh => (H6.out B hh).2.2.1 rfl)).trans (HBK.out _); have HB5 := Lib.hid hb5; have hB5 := blk_lt hb5; have q0 : w5.cell? ⟨B, 1, none⟩ = some (.slice oa G.edges.length cap) := (blk_cell hb5 1).trans rfl; have qf := blk_free hb5 1; clear hb5 k1 k2 k3 k4)
  all_goals
    go_wp2
    go_ret
    have hcl := addEdge_close (o := o) H2.out H3.out H4.out H5.out H6.out H7.out HR1.out HR3.out (HM02.out.step (Mod.of_grow (Grow.drewd (Grow.allocd (Grow.rfl' w2) _)))) K1.out K2.out K3.out HB5.out hBs
    exact ⟨rfl, hcl⟩
end Go.Hg

namespace Go.Hg
open Go.RowKit Go.Proofs

theorem flat_cut {α : Type} {rows : List (List α)} {sz : Nat} (h : ∀ r ∈ rows, r.length = sz) {i : Nat} (hi : i ≤ rows.length) : rows.flatten.take (i * sz) = (rows.take i).flatten ∧ rows.flatten.drop (i * sz) = (rows.drop i).flatten := by
  have h1 : rows.flatten = (rows.take i).flatten ++ (rows.drop i).flatten := by rw [← List.flatten_append, List.take_append_drop]
  have h2 : (rows.take i).flatten.length = i * sz := by
    rw [flatten_len _ sz (fun r hr => h r (List.mem_of_mem_take hr)), List.length_take]
    congr 1
    omega
  rw [h1, ← h2, List.take_left, List.drop_left]
  exact ⟨rfl, rfl⟩
theorem OwnL.erase {α : Type} {w' : World} {E : TypeId} {sz : Nat} {R R' : α → List Value → Prop} {v' : Value} {l : List α} {ob : Option Nat} {rows : List (List Value)} {i : Nat} (r1 : rows.length = l.length) (r2 : ∀ r ∈ rows, r.length = sz)
    (r3 : ∀ (k : Nat) x r, l[k]? = some x → rows[k]? = some r → R x r ∧ r.length = sz) (hR : ∀ x r, x ∈ l → R x r → R' x r) (hi : i < l.length) (k : OwnS w' E sz v' (l.length - 1) (rows.flatten.take (i * sz) ++ rows.flatten.drop ((i + 1) * sz)) ob) :
    OwnL w' E sz R' v' (l.take i ++ l.drop (i + 1)) ob := by
  have hlen : (l.take i ++ l.drop (i + 1)).length = l.length - 1 := by rw [List.length_append, List.length_take, List.length_drop]; omega
  refine ⟨rows.take i ++ rows.drop (i + 1), by rw [hlen, List.length_append, List.length_take, List.length_drop]; omega, fun j x r hj hr => ?_, ?_⟩
  · have hti : (l.take i).length = i := by rw [List.length_take]; omega
    have htr : (rows.take i).length = i := by rw [List.length_take]; omega
    by_cases hji : j < i
    · rw [List.getElem?_append_left (by omega), List.getElem?_take, if_pos hji] at hj hr
      exact ⟨hR _ _ (List.mem_of_getElem? hj) (r3 j x r hj hr).1, (r3 j x r hj hr).2⟩
    · rw [List.getElem?_append_right (by omega), hti, List.getElem?_drop] at hj
      rw [List.getElem?_append_right (by omega), htr, List.getElem?_drop] at hr
      exact ⟨hR _ _ (List.mem_of_getElem? hj) (r3 _ x r hj hr).1, (r3 _ x r hj hr).2⟩
  · rw [hlen, List.flatten_append, ← (flat_cut r2 (i := i) (by omega)).1, ← (flat_cut r2 (i := i + 1) (by omega)).2]
    exact k
theorem OwnL.one_flatN {R : Nat → Prop} {w : World} {l : List PNode} {rows : List (List Value)} (r1 : rows.length = l.length) (r3 : ∀ (k : Nat) x r, l[k]? = some x → rows[k]? = some r → RNode R w x r ∧ r.length = 3) : ∀ u ∈ rows.flatten, u.oneCell' = true := by
  intro u hu
  obtain ⟨r, hr, hur⟩ := List.mem_flatten.1 hu
  obtain ⟨k, hk⟩ := List.getElem?_of_mem hr
  have hlt : k < l.length := by have := (List.getElem?_eq_some_iff.1 hk).1; omega
  exact (r3 k _ r (List.getElem?_eq_getElem hlt) hk).1.one u hur
theorem OwnL.one_flatE {R : Nat → Prop} {w : World} {l : List PEdge} {rows : List (List Value)} (r1 : rows.length = l.length) (r3 : ∀ (k : Nat) x r, l[k]? = some x → rows[k]? = some r → REdge R w x r ∧ r.length = 5) : ∀ u ∈ rows.flatten, u.oneCell' = true := by
  intro u hu
  obtain ⟨r, hr, hur⟩ := List.mem_flatten.1 hu
  obtain ⟨k, hk⟩ := List.getElem?_of_mem hr
  have hlt : k < l.length := by have := (List.getElem?_eq_some_iff.1 hk).1; omega
  exact (r3 k _ r (List.getElem?_eq_getElem hlt) hk).1.one u hur

set_option maxRecDepth 100000 in
set_option maxHeartbeats 2000000 in
theorem dropNode (S : Nat → Prop) (B : Nat) (G : PGraph) (o : POp) (w : World) (h : GraphOk 101 S w B G) (hG : GInv G) (hn : hasN G o.id = true) :
    Calls Tryz.prog 85 #[.pointer (some ⟨B, 0, none⟩), o.args] w fun e w' => e = .returned (.int .i64 0) ∧ GraphOk 101 S w' B (dropNodeG o G) ∧ Mod S w w' := by
  have HGR := Lib.hid h
  obtain ⟨nv, ev, R, on, oe, h1, h2, h3, h4, h5, h6, h7, h8⟩ := h.parts (by decide) (by decide)
  have H2 := Lib.hid h2; have H3 := Lib.hid h3; have H4 := Lib.hid h4; have H5 := Lib.hid h5; have H6 := Lib.hid h6; have H7 := Lib.hid h7; have H8 := Lib.hid h8
  have HI := Lib.hid hG; have HN := Lib.hid hn
  have HW := Lib.hid (show ∀ o1, Grow w (w.alloc o1) from fun o1 => (Grow.rfl' w).allocd o1)
  have HOP := Lib.hid (show OpAt (w.alloc (.cells o.cells.toArray 35)) w.heap.size o from heap_alloc_new w _)
  have HB0 := Lib.hid h1
  have hBs : B < w.heap.size := blk_lt h1
  clear h h2 h3 h4 h5 h6 h7 h8 hG h1 hn
  go_enter Tryz.func85, Tryz.ntmps85
  go_wp2_with fail
  refine (graphNode_ S B G o.id _ (HGR.out.grow (HW.out _)) HI.out).mono ?_
  rintro e w2 ⟨i, b, rfl, hb, hg⟩
  obtain rfl : b = true := by
    have e := idx_any (fun x : PNode => x.id) hb
    rw [e]; exact HN.out
  obtain ⟨x, hx, hxi⟩ := idx_at (fun x : PNode => x.id) hb
  have hil : i < G.nodes.length := (List.getElem?_eq_some_iff.1 hx).1
  have HX := Lib.hid hx; have HXI := Lib.hid hxi
  have HG2 := Lib.hid ((HW.out _).step hg)
  have HOP2 := Lib.hid (HOP.out.grow hg)
  have HB2 := Lib.hid ((HG2.out.heapEq hBs).trans HB0.out)
  clear hb hg hx hxi
  obtain ⟨rows, hr1, hr2, hr3, hos⟩ := H7.out.rowLen
  have HR2 := Lib.hid hr2; have HR3 := Lib.hid hr3; have HR1 := Lib.hid hr1
  have HOS := Lib.hid (hos.grow HG2.out)
  obtain ⟨oa, cap, rfl, -, -⟩ := hos.isSlice
  clear hr1 hr2 hr3 hos
  have HLN := Lib.hid HI.out.items
  have hB2 : B < w2.heap.size := blk_lt HB2.out
  have g0 : w2.cell? ⟨B, 0, none⟩ = some (.slice oa G.nodes.length cap) := by rw [blk_cell HB2.out]; rfl
  have hw1 : IntKind.i64.wrap ((i : Int) + 1) = (i : Int) + 1 := by have := HLN.out; rw [IntKind.wrap_i64]; omega
  go_wp2_with fail
  refine (deleteNode _ G.nodes.length rows.flatten on i _ HOS.out (by have := HLN.out; omega) hil (OwnL.one_flatN HR1.out HR3.out)).mono ?_
  rintro e w3 ⟨v3, rfl, hos3, hm3⟩
  obtain ⟨oa3, cap3, rfl, -, -⟩ := hos3.isSlice
  have HOS3 := Lib.hid hos3; have HM3 := Lib.hid hm3
  have HB3 := Lib.hid ((hm3.block B hB2 (fun hh => (H5.out B hh).2.2.1 rfl)).trans HB2.out)
  have hB3 : B < w3.heap.size := blk_lt HB3.out
  have g03 : w3.cell? ⟨B, 0, none⟩ = some (.slice oa G.nodes.length cap) := by rw [blk_cell HB3.out]; rfl
  have f03 := blk_free HB3.out 0
  have HM03 := Lib.hid (show Mod (fun b => b = B ∨ on = some b) w w3 from (Mod.of_grow HG2.out).step (hm3.mono (fun _ h => .inr h)))
  obtain ⟨ea, ec, rfl⟩ : ∃ ea ec, ev = .slice ea G.edges.length ec := by obtain ⟨_, _, _, h⟩ := H8.out; obtain ⟨oa, cap, h, _⟩ := h.isSlice; exact ⟨oa, cap, h⟩
  have g13 : w3.cell? ⟨B, 1, none⟩ = some (.slice ea G.edges.length ec) := by rw [blk_cell HB3.out]; rfl
  have HM04 := Lib.hid (show Mod (fun b => b = B ∨ on = some b) w (w3.setCell ⟨B, 0, none⟩ (.slice oa3 (G.nodes.length - 1) cap3)) from HM03.out.setd (p := ⟨B, 0, none⟩) (.inl (.inl rfl)) _)
  have HOP4 := Lib.hid (show OpAt (w3.setCell ⟨B, 0, none⟩ (.slice oa3 (G.nodes.length - 1) cap3)) w.heap.size o from
    (HOP2.out.mod HM3.out (fun hh => by have := (H5.out _ hh).2.2.2.1; omega)).mod ((Mod.rfl' (fun b => b = B) w3).setd (p := ⟨B, 0, none⟩) (.inl rfl) _) (by omega))
  have hRm : ∀ b, R b → ¬ (b = B ∨ on = some b) := fun b hb h => h.elim (fun e => H3.out (e ▸ hb)) (fun e => (H5.out b e).2.1 hb)
  have HRM := Lib.hid hRm
  clear hos3 hm3 hRm
  go_wp2_with fail
  have HE4 := Lib.hid (H8.out.edgesMod HM04.out (fun g hg h => h.elim (H6.out g hg).2.2.1 (H6.out g hg).2.2.2.2) HRM.out)
  refine (deleteEdges R _ G.edges oe 114 ⟨w.heap.size, 0, none⟩ (fun x => atE x o.id) _ HE4.out (fun g hg => (H6.out g hg).2.1) ⟨fun args w => enterF Tryz.func114 (by kernel_rfl) rfl args w, fun S x pv w' hm hp => dropNode1 x pv _ o.id w' S hp (HOP4.out.mod hm (fun hh => by have := (H6.out _ hh).2.2.2.1; omega)).at.2.2.1⟩ (by have := HLN.out; omega)).mono ?_
  rintro e w5 ⟨v5, rfl, hos5, hm5⟩
  have HB4 := Lib.hid (show (w3.setCell ⟨B, 0, none⟩ (.slice oa3 (G.nodes.length - 1) cap3)).heap[B]? = some (.cells #[.slice oa3 (G.nodes.length - 1) cap3, .slice ea G.edges.length ec, .int .i64 G.next] 101 (0, 0)) from heap_setCell_same w3 B 0 _ _ _ HB3.out)
  have HB5 := Lib.hid ((hm5.block B (by simpa using hB3) (fun hh => (H6.out B hh).2.2.1 rfl)).trans HB4.out)
  obtain ⟨ea5, ec5, rfl⟩ : ∃ ea ec, v5 = .slice ea (G.edges.filter fun x => !atE x o.id).length ec := by obtain ⟨_, _, _, h⟩ := hos5; obtain ⟨oa, cap, h, _⟩ := h.isSlice; exact ⟨oa, cap, h⟩
  have hB5 : B < w5.heap.size := blk_lt HB5.out
  have g15 : w5.cell? ⟨B, 1, none⟩ = some (.slice ea G.edges.length ec) := by rw [blk_cell HB5.out]; rfl
  have f15 := blk_free HB5.out 1
  have HOS5 := Lib.hid hos5; have HM5 := Lib.hid hm5
  clear hos5 hm5 g13 g03 f03 g0
  go_wp2
  go_ret
  have m56 : Mod (fun b => b = B ∨ oe = some b) (w3.setCell ⟨B, 0, none⟩ (.slice oa3 (G.nodes.length - 1) cap3)) (w5.setCell ⟨B, 1, none⟩ (.slice ea5 (G.edges.filter fun x => !atE x o.id).length ec5)) := (HM5.out.mono (fun _ h => .inr h)).setd (p := ⟨B, 1, none⟩) (.inl (.inl rfl)) _
  have m6 : Mod (fun b => b = B ∨ on = some b ∨ oe = some b) w (w5.setCell ⟨B, 1, none⟩ (.slice ea5 (G.edges.filter fun x => !atE x o.id).length ec5)) :=
    (HM04.out.mono (fun _ h => h.imp id .inl)).step (m56.mono (fun _ h => h.imp id .inr))
  have hR6 : ∀ b, R b → ¬ (b = B ∨ on = some b ∨ oe = some b) := fun b hb h => h.elim (fun e => H3.out (e ▸ hb)) (fun h => h.elim (fun e => (H5.out b e).2.1 hb) (fun e => (H6.out b e).2.1 hb))
  refine ⟨rfl, ⟨.slice oa3 (G.nodes.length - 1) cap3, _, R, on, oe, heap_setCell_same w5 B 1 _ _ _ HB5.out, H2.out, H3.out, fun b hb => ⟨(H4.out b hb).1, Nat.lt_of_lt_of_le (H4.out b hb).2 m6.size⟩, fun g hg => ⟨(H5.out g hg).1, (H5.out g hg).2.1⟩, fun g hg => ⟨(H6.out g hg).1, (H6.out g hg).2.1⟩, ?_, ?_⟩,
    m6.mono (fun b hb => hb.elim (fun e => e ▸ H2.out) (fun h => h.elim (fun e => (H5.out b e).1) (fun e => (H6.out b e).1)))⟩
  · show OwnL _ _ _ _ _ (G.nodes.filter fun x => !decide (x.id = o.id)) _
    rw [filter_idx (fun x : PNode => x.id) HI.out.nodes HX.out HXI.out]
    refine OwnL.erase HR1.out HR2.out HR3.out (fun x r _ hR => hR.mod m6 hR6) hil ?_
    have hk := HOS3.out.keep (w' := w3.setCell ⟨B, 0, none⟩ (.slice oa3 (G.nodes.length - 1) cap3)) (fun g hg => ((Mod.rfl' (fun b => b = B) w3).setd (p := ⟨B, 0, none⟩) (.inl rfl) _).block g (HOS3.out.lt g hg) (H5.out g hg).2.2.1)
    exact hk.keep (fun g hg => m56.block g (hk.lt g hg) (fun h => h.elim (H5.out g hg).2.2.1 (H5.out g hg).2.2.2.2))
  · exact HOS5.out.edgesMod ((Mod.rfl' (fun b => b = B) w5).setd (p := ⟨B, 1, none⟩) (.inl rfl) _) (fun g hg => (H6.out g hg).2.2.1) (fun b hb e => H3.out (e ▸ hb))

set_option maxRecDepth 100000 in
set_option maxHeartbeats 2000000 in
theorem dropEdge (S : Nat → Prop) (B : Nat) (G : PGraph) (o : POp) (w : World) (h : GraphOk 101 S w B G) (hG : GInv G) (hn : hasE G o.id = true) :
    Calls Tryz.prog 89 #[.pointer (some ⟨B, 0, none⟩), o.args] w fun e w' => e = .returned (.int .i64 0) ∧ GraphOk 101 S w' B (dropEdgeG o G) ∧ Mod S w w' := by
  have HGR := Lib.hid h
  obtain ⟨nv, ev, R, on, oe, h1, h2, h3, h4, h5, h6, h7, h8⟩ := h.parts (by decide) (by decide)
  have H2 := Lib.hid h2; have H3 := Lib.hid h3; have H4 := Lib.hid h4; have H5 := Lib.hid h5; have H6 := Lib.hid h6; have H7 := Lib.hid h7; have H8 := Lib.hid h8
  have HI := Lib.hid hG; have HN := Lib.hid hn
  have HW := Lib.hid (show ∀ o1, Grow w (w.alloc o1) from fun o1 => (Grow.rfl' w).allocd o1)
  have HB0 := Lib.hid h1
  have hBs : B < w.heap.size := blk_lt h1
  clear h h2 h3 h4 h5 h6 h7 h8 hG h1 hn
  go_enter Tryz.func89, Tryz.ntmps89
  go_wp2_with fail
  refine (graphEdge_ S B G o.id _ (HGR.out.grow (HW.out _)) HI.out).mono ?_
  rintro e w2 ⟨i, b, rfl, hb, hg⟩
  obtain rfl : b = true := by
    have e := idx_any (fun x : PEdge => x.id) hb
    rw [e]; exact HN.out
  obtain ⟨x, hx, hxi⟩ := idx_at (fun x : PEdge => x.id) hb
  have hil : i < G.edges.length := (List.getElem?_eq_some_iff.1 hx).1
  have HX := Lib.hid hx; have HXI := Lib.hid hxi
  have HG2 := Lib.hid ((HW.out _).step hg)
  have HB2 := Lib.hid ((HG2.out.heapEq hBs).trans HB0.out)
  clear hb hg hx hxi
  obtain ⟨rows, hr1, hr2, hr3, hos⟩ := H8.out.rowLen
  have HR2 := Lib.hid hr2; have HR3 := Lib.hid hr3; have HR1 := Lib.hid hr1
  have HOS := Lib.hid (hos.grow HG2.out)
  obtain ⟨oa, cap, rfl, -, -⟩ := hos.isSlice
  clear hr1 hr2 hr3 hos
  have HLN := Lib.hid HI.out.items
  have hB2 : B < w2.heap.size := blk_lt HB2.out
  have g0 : w2.cell? ⟨B, 1, none⟩ = some (.slice oa G.edges.length cap) := by rw [blk_cell HB2.out]; rfl
  have hw1 : IntKind.i64.wrap ((i : Int) + 1) = (i : Int) + 1 := by have := HLN.out; rw [IntKind.wrap_i64]; omega
  go_wp2_with fail
  refine (deleteEdge _ G.edges.length rows.flatten oe i _ HOS.out (by have := HLN.out; omega) hil (OwnL.one_flatE HR1.out HR3.out)).mono ?_
  rintro e w3 ⟨v3, rfl, hos3, hm3⟩
  obtain ⟨oa3, cap3, rfl, -, -⟩ := hos3.isSlice
  have HOS3 := Lib.hid hos3; have HM3 := Lib.hid hm3
  have HB3 := Lib.hid ((hm3.block B hB2 (fun hh => (H6.out B hh).2.2.1 rfl)).trans HB2.out)
  have hB3 : B < w3.heap.size := blk_lt HB3.out
  have g03 : w3.cell? ⟨B, 1, none⟩ = some (.slice oa G.edges.length cap) := by rw [blk_cell HB3.out]; rfl
  have f03 := blk_free HB3.out 1
  clear hos3 hm3
  go_wp2
  go_ret
  have m34 : Mod (fun b => b = B) w3 (w3.setCell ⟨B, 1, none⟩ (.slice oa3 (G.edges.length - 1) cap3)) := (Mod.rfl' (fun b => b = B) w3).setd (p := ⟨B, 1, none⟩) (.inl rfl) _
  have m6 : Mod (fun b => b = B ∨ oe = some b) w (w3.setCell ⟨B, 1, none⟩ (.slice oa3 (G.edges.length - 1) cap3)) :=
    ((Mod.of_grow HG2.out).step (HM3.out.mono (fun _ h => .inr h))).step (m34.mono (fun _ h => .inl h))
  have hR6 : ∀ b, R b → ¬ (b = B ∨ oe = some b) := fun b hb h => h.elim (fun e => H3.out (e ▸ hb)) (fun e => (H6.out b e).2.1 hb)
  refine ⟨rfl, ⟨nv, .slice oa3 (G.edges.length - 1) cap3, R, on, oe, heap_setCell_same w3 B 1 _ _ _ HB3.out, H2.out, H3.out, fun b hb => ⟨(H4.out b hb).1, Nat.lt_of_lt_of_le (H4.out b hb).2 m6.size⟩, fun g hg => ⟨(H5.out g hg).1, (H5.out g hg).2.1⟩, fun g hg => ⟨(H6.out g hg).1, (H6.out g hg).2.1⟩, ?_, ?_⟩,
    m6.mono (fun b hb => hb.elim (fun e => e ▸ H2.out) (fun e => (H6.out b e).1))⟩
  · exact H7.out.nodesMod m6 (fun g hg h => h.elim (H5.out g hg).2.2.1 (H5.out g hg).2.2.2.2) hR6
  · show OwnL _ _ _ _ _ (G.edges.filter fun x => !decide (x.id = o.id)) _
    rw [filter_idx (fun x : PEdge => x.id) HI.out.edges HX.out HXI.out]
    refine OwnL.erase HR1.out HR2.out HR3.out (fun x r _ hR => hR.mod m6 hR6) hil ?_
    exact HOS3.out.keep (fun g hg => m34.block g (HOS3.out.lt g hg) (H6.out g hg).2.2.1)
end Go.Hg
