/- hedgerowkeep.CopyCat: the same in new memory. Condition: at most 100 of each. Printed by gencat.py. -/
import Derived.Test.YtcokiflkjnekeaaGreatCatB
import Derived.Laws.ResultCell
namespace Go.Hg
open Go.RowKit Go.Proofs

set_option maxRecDepth 100000 in
set_option maxHeartbeats 4000000 in
theorem keepCopyCat (S : Nat → Prop) (nv ev rv iv : Value) (c : PCat) (w : World) (hc : CatR S w nv ev rv iv c) (hb : c.nodes.length ≤ 100 ∧ c.edges.length ≤ 100 ∧ c.rules.length ≤ 100 ∧ c.indexes.length ≤ 100) :
    Calls Tryz.prog 9 #[c.arg nv ev rv iv] w fun e w' => ∃ nv' ev' rv' iv', e = .returned (c.arg nv' ev' rv' iv') ∧ CatR (fun b => w.heap.size ≤ b) w' nv' ev' rv' iv' c ∧ Grow w w' := by
  obtain ⟨na, nc, ea, ec, ra, rc, ia, ic, rfl, rfl, rfl, rfl⟩ := hc.slices
  obtain ⟨iS, hiS, hzS0, hzS1, hzS2⟩ := info_parts infoStr
  obtain ⟨iR, hiR, hzR0, hzR1, hzR2⟩ := info_parts infoRule
  obtain ⟨iI, hiI, hzI0, hzI1, hzI2⟩ := info_parts infoIndex
  obtain ⟨rows0, hl0, hr0, ho0, hd0⟩ := SlR.rows (R := RStr) hc.1 (by rintro x r rfl; rfl) oneStr
  have HL0 := Lib.hid hl0; have HR0 := Lib.hid hr0; have HO0 := Lib.hid ho0; have HD0 := Lib.hid hd0
  clear hl0 hr0 ho0 hd0
  obtain ⟨rows1, hl1, hr1, ho1, hd1⟩ := SlR.rows (R := RStr) hc.2.1 (by rintro x r rfl; rfl) oneStr
  have HL1 := Lib.hid hl1; have HR1 := Lib.hid hr1; have HO1 := Lib.hid ho1; have HD1 := Lib.hid hd1
  clear hl1 hr1 ho1 hd1
  obtain ⟨rows2, hl2, hr2, ho2, hd2⟩ := SlR.rows (R := RRule) hc.2.2.1 (by rintro x r rfl; rfl) oneRule
  have HL2 := Lib.hid hl2; have HR2 := Lib.hid hr2; have HO2 := Lib.hid ho2; have HD2 := Lib.hid hd2
  clear hl2 hr2 ho2 hd2
  obtain ⟨rows3, hl3, hr3, ho3, hd3⟩ := SlR.rows (R := RIndex) hc.2.2.2 (by rintro x r rfl; rfl) oneIndex
  have HL3 := Lib.hid hl3; have HR3 := Lib.hid hr3; have HO3 := Lib.hid ho3; have HD3 := Lib.hid hd3
  clear hl3 hr3 ho3 hd3
  have HBD := Lib.hid hb
  have HW := Lib.hid (show ∀ o1 o2, Grow w ((w.alloc o1).alloc o2) from fun o1 o2 => ((Grow.rfl' w).allocd o1).allocd o2)
  have HBX := Lib.hid (boxes2 w (.slice na c.nodes.length nc) (.slice ea c.edges.length ec) (.slice ra c.rules.length rc) (.slice ia c.indexes.length ic) (.slice none 0 0) (.slice none 0 0) (.slice none 0 0) (.slice none 0 0) c.nextRule 0 26)
  clear hc hb
  go_enter Tryz.func9, Tryz.ntmps9

  have HLA0 := Lib.hid (show ∀ o1 o2, OwnS (((w.alloc o1).alloc o2).alloc (.cells #[] 9)) 9 1 (.slice (some ⟨w.heap.size + 1 + 1, 0, none⟩) 0 0) 0 [] (some (w.heap.size + 1 + 1)) from fun o1 o2 => by
    have := OwnS.lit ((w.alloc o1).alloc o2) #[] 9 1 0 (by unfold maxLen; omega) (by simp)
    simpa using this)
  have HGA0 := Lib.hid (show ∀ o1 o2 o3, Grow w (((w.alloc o1).alloc o2).alloc o3) from fun o1 o2 o3 => (HW.out o1 o2).allocd o3)
  go_wp2_with (at_builtin; go_must (refine wpList_append_S _ rfl (.tmp 3) (.tmp 5) 22 rfl 9 iS _ 1 16 Tryz.underlying22 hiS hzS0 hzS1 hzS2 rfl (by decide) (.slice (some ⟨w.heap.size + 1 + 1, 0, none⟩) 0 0) 0 [] (some (w.heap.size + 1 + 1)) rfl (HLA0.out _ _) (.slice na c.nodes.length nc) rfl c.nodes.length _ (HD0.out _ (HGA0.out _ _ _)) HO0.out (by have := HBD.out; unfold maxLen; omega) (by have := HBD.out; omega) ?_))
  intro v0 wb0 ob0 k1 k2 k3 _
  have hlo0 : ∀ g, ob0 = some g → w.heap.size + 2 ≤ g := fun g hg => by
    rcases k3 with k3 | ⟨g', k3, hge⟩
    · rw [k3] at hg; cases hg; omega
    · rw [k3] at hg; cases hg; first | omega | (simp at hge; omega)
  have HGW0 := Lib.hid (show Grow w wb0 from (HGA0.out _ _ _).modd k2 (fun b hb => by have hb' : _ = b := hb; omega))
  have HB0 := Lib.hid (show wb0.heap[w.heap.size]? = some (.cells #[.slice na c.nodes.length nc, .slice ea c.edges.length ec, .slice ra c.rules.length rc, .slice ia c.indexes.length ic, .int .i64 c.nextRule] 26 (0, 0)) from (k2.block _ (by simp <;> omega) (fun hb => by omega)).trans (HBX.out.1 _ ((Grow.rfl' _).allocd _)))
  have HZ0 := Lib.hid (show wb0.heap[w.heap.size + 1]? = some (.cells #[.slice none 0 0, .slice none 0 0, .slice none 0 0, .slice none 0 0, .int .i64 0] 26 (0, 0)) from (k2.block _ (by simp <;> omega) (fun hb => by omega)).trans (HBX.out.2 _ ((Grow.rfl' _).allocd _)))
  have HLO0 := Lib.hid (show w.heap.size + 2 ≤ wb0.heap.size by have := k2.size; simp at this; omega)
  have hO0 := rows_own HL0.out HR0.out k1
  have SR0 := Lib.hid (show SlR (fun b => w.heap.size + 2 ≤ b) wb0 1 RStr v0 c.nodes from hO0.toSl hlo0)
  obtain ⟨a0, c0, rfl⟩ : ∃ a cc, v0 = .slice a c.nodes.length cc := by obtain ⟨_, _, _, h⟩ := hO0; obtain ⟨oa, cap, h, _⟩ := h.isSlice; exact ⟨oa, cap, h⟩
  clear k1 k2 k3 hlo0 hO0
  have zl0 : w.heap.size < wb0.heap.size := blk_lt HB0.out
  have z0 : wb0.cell? ⟨w.heap.size, 0, none⟩ = some (.slice na c.nodes.length nc) := by rw [blk_cell HB0.out]; rfl
  have zf0 := blk_free HB0.out 0
  have y0 : wb0.cell? ⟨w.heap.size, 1, none⟩ = some (.slice ea c.edges.length ec) := by rw [blk_cell HB0.out]; rfl
  have HLA1 := Lib.hid (show ∀ u, OwnS ((wb0.setCell ⟨w.heap.size, 0, none⟩ u).alloc (.cells #[] 9)) 9 1 (.slice (some ⟨wb0.heap.size, 0, none⟩) 0 0) 0 [] (some wb0.heap.size) from fun u => by
    have := OwnS.lit (wb0.setCell ⟨w.heap.size, 0, none⟩ u) #[] 9 1 0 (by unfold maxLen; omega) (by simp)
    simpa using this)
  have HGA1 := Lib.hid (show ∀ u o3, Grow w ((wb0.setCell ⟨w.heap.size, 0, none⟩ u).alloc o3) from fun u o3 => (HGW0.out.setd (p := ⟨w.heap.size, 0, none⟩) (Nat.le_refl _) u).allocd o3)
  go_wp2_with (at_builtin; go_must (refine wpList_append_S _ rfl (.tmp 8) (.tmp 10) 22 rfl 9 iS _ 1 16 Tryz.underlying22 hiS hzS0 hzS1 hzS2 rfl (by decide) (.slice (some ⟨wb0.heap.size, 0, none⟩) 0 0) 0 [] (some (wb0.heap.size)) rfl (HLA1.out _) (.slice ea c.edges.length ec) rfl c.edges.length _ (HD1.out _ (HGA1.out _ _)) HO1.out (by have := HBD.out; unfold maxLen; omega) (by have := HBD.out; omega) ?_))
  intro v1 wb1 ob1 k1 k2 k3 _
  have hlo1 : ∀ g, ob1 = some g → w.heap.size + 2 ≤ g := fun g hg => by
    rcases k3 with k3 | ⟨g', k3, hge⟩
    · rw [k3] at hg; cases hg; exact HLO0.out
    · rw [k3] at hg; cases hg; have := HLO0.out; first | omega | (simp at hge; omega)
  have hm1 : ∀ u, Mod (fun b => b = w.heap.size) (wb0.setCell ⟨w.heap.size, 0, none⟩ u) ((wb0.setCell ⟨w.heap.size, 0, none⟩ u).alloc (.cells #[] 9)) := fun u => Mod.of_grow ((Grow.rfl' _).allocd _)
  have HM1 := Lib.hid (show Mod (fun b => b = w.heap.size) wb0 wb1 from (((Mod.rfl' (fun b => b = w.heap.size) wb0).setd (p := ⟨w.heap.size, 0, none⟩) (.inl rfl) _).allocd _).step' k2 (fun b hb => .inr (by have hb' : _ = b := hb; omega)))
  have HGW1 := Lib.hid (HGW0.out.modd HM1.out (fun b hb => by omega))
  have HLO1 := Lib.hid (show w.heap.size + 2 ≤ wb1.heap.size from Nat.le_trans HLO0.out HM1.out.size)
  have HB1 := Lib.hid (show wb1.heap[w.heap.size]? = some (.cells #[.slice a0 c.nodes.length c0, .slice ea c.edges.length ec, .slice ra c.rules.length rc, .slice ia c.indexes.length ic, .int .i64 c.nextRule] 26 (0, 0)) from (k2.block _ (by have := HLO0.out; simp <;> omega) (fun hb => by have := HLO0.out; omega)).trans (((Grow.rfl' (wb0.setCell ⟨w.heap.size, 0, none⟩ _)).allocd _ |>.heapEq (by have := HLO0.out; simp <;> omega)).trans ((heap_setCell_same wb0 w.heap.size 0 _ _ _ HB0.out).trans rfl)))
  have HZ1 := Lib.hid ((HM1.out.block (w.heap.size + 1) (by have := HLO0.out; omega) (by omega)).trans HZ0.out)
  clear hm1
  have SR0 := Lib.hid (SlR.modS SR0.out HM1.out (fun b hb e => by omega))
  have hO1 := rows_own HL1.out HR1.out k1
  have SR1 := Lib.hid (show SlR (fun b => w.heap.size + 2 ≤ b) wb1 1 RStr v1 c.edges from hO1.toSl hlo1)
  obtain ⟨a1, c1, rfl⟩ : ∃ a cc, v1 = .slice a c.edges.length cc := by obtain ⟨_, _, _, h⟩ := hO1; obtain ⟨oa, cap, h, _⟩ := h.isSlice; exact ⟨oa, cap, h⟩
  clear k1 k2 k3 hlo1 hO1
  have zl1 : w.heap.size < wb1.heap.size := blk_lt HB1.out
  have z1 : wb1.cell? ⟨w.heap.size, 1, none⟩ = some (.slice ea c.edges.length ec) := by rw [blk_cell HB1.out]; rfl
  have zf1 := blk_free HB1.out 1
  have y1 : wb1.cell? ⟨w.heap.size, 2, none⟩ = some (.slice ra c.rules.length rc) := by rw [blk_cell HB1.out]; rfl
  have HLA2 := Lib.hid (show ∀ u, OwnS ((wb1.setCell ⟨w.heap.size, 1, none⟩ u).alloc (.cells #[] 52)) 52 8 (.slice (some ⟨wb1.heap.size, 0, none⟩) 0 0) 0 [] (some wb1.heap.size) from fun u => by
    have := OwnS.lit (wb1.setCell ⟨w.heap.size, 1, none⟩ u) #[] 52 8 0 (by unfold maxLen; omega) (by simp)
    simpa using this)
  have HGA2 := Lib.hid (show ∀ u o3, Grow w ((wb1.setCell ⟨w.heap.size, 1, none⟩ u).alloc o3) from fun u o3 => (HGW1.out.setd (p := ⟨w.heap.size, 1, none⟩) (Nat.le_refl _) u).allocd o3)
  go_wp2_with (at_builtin; go_must (refine wpList_append_S _ rfl (.tmp 13) (.tmp 15) 23 rfl 52 iR _ 8 96 Tryz.underlying23 hiR hzR0 hzR1 hzR2 rfl (by decide) (.slice (some ⟨wb1.heap.size, 0, none⟩) 0 0) 0 [] (some (wb1.heap.size)) rfl (HLA2.out _) (.slice ra c.rules.length rc) rfl c.rules.length _ (HD2.out _ (HGA2.out _ _)) HO2.out (by have := HBD.out; unfold maxLen; omega) (by have := HBD.out; omega) ?_))
  intro v2 wb2 ob2 k1 k2 k3 _
  have hlo2 : ∀ g, ob2 = some g → w.heap.size + 2 ≤ g := fun g hg => by
    rcases k3 with k3 | ⟨g', k3, hge⟩
    · rw [k3] at hg; cases hg; exact HLO1.out
    · rw [k3] at hg; cases hg; have := HLO1.out; first | omega | (simp at hge; omega)
  have hm2 : ∀ u, Mod (fun b => b = w.heap.size) (wb1.setCell ⟨w.heap.size, 1, none⟩ u) ((wb1.setCell ⟨w.heap.size, 1, none⟩ u).alloc (.cells #[] 52)) := fun u => Mod.of_grow ((Grow.rfl' _).allocd _)
  have HM2 := Lib.hid (show Mod (fun b => b = w.heap.size) wb1 wb2 from (((Mod.rfl' (fun b => b = w.heap.size) wb1).setd (p := ⟨w.heap.size, 1, none⟩) (.inl rfl) _).allocd _).step' k2 (fun b hb => .inr (by have hb' : _ = b := hb; omega)))
  have HGW2 := Lib.hid (HGW1.out.modd HM2.out (fun b hb => by omega))
  have HLO2 := Lib.hid (show w.heap.size + 2 ≤ wb2.heap.size from Nat.le_trans HLO1.out HM2.out.size)
  have HB2 := Lib.hid (show wb2.heap[w.heap.size]? = some (.cells #[.slice a0 c.nodes.length c0, .slice a1 c.edges.length c1, .slice ra c.rules.length rc, .slice ia c.indexes.length ic, .int .i64 c.nextRule] 26 (0, 0)) from (k2.block _ (by have := HLO1.out; simp <;> omega) (fun hb => by have := HLO1.out; omega)).trans (((Grow.rfl' (wb1.setCell ⟨w.heap.size, 1, none⟩ _)).allocd _ |>.heapEq (by have := HLO1.out; simp <;> omega)).trans ((heap_setCell_same wb1 w.heap.size 1 _ _ _ HB1.out).trans rfl)))
  have HZ2 := Lib.hid ((HM2.out.block (w.heap.size + 1) (by have := HLO1.out; omega) (by omega)).trans HZ1.out)
  clear hm2
  have SR0 := Lib.hid (SlR.modS SR0.out HM2.out (fun b hb e => by omega))
  have SR1 := Lib.hid (SlR.modS SR1.out HM2.out (fun b hb e => by omega))
  have hO2 := rows_own HL2.out HR2.out k1
  have SR2 := Lib.hid (show SlR (fun b => w.heap.size + 2 ≤ b) wb2 8 RRule v2 c.rules from hO2.toSl hlo2)
  obtain ⟨a2, c2, rfl⟩ : ∃ a cc, v2 = .slice a c.rules.length cc := by obtain ⟨_, _, _, h⟩ := hO2; obtain ⟨oa, cap, h, _⟩ := h.isSlice; exact ⟨oa, cap, h⟩
  clear k1 k2 k3 hlo2 hO2
  have zl2 : w.heap.size < wb2.heap.size := blk_lt HB2.out
  have z2 : wb2.cell? ⟨w.heap.size, 2, none⟩ = some (.slice ra c.rules.length rc) := by rw [blk_cell HB2.out]; rfl
  have zf2 := blk_free HB2.out 2
  have y2 : wb2.cell? ⟨w.heap.size, 3, none⟩ = some (.slice ia c.indexes.length ic) := by rw [blk_cell HB2.out]; rfl
  have HLA3 := Lib.hid (show ∀ u, OwnS ((wb2.setCell ⟨w.heap.size, 2, none⟩ u).alloc (.cells #[] 54)) 54 2 (.slice (some ⟨wb2.heap.size, 0, none⟩) 0 0) 0 [] (some wb2.heap.size) from fun u => by
    have := OwnS.lit (wb2.setCell ⟨w.heap.size, 2, none⟩ u) #[] 54 2 0 (by unfold maxLen; omega) (by simp)
    simpa using this)
  have HGA3 := Lib.hid (show ∀ u o3, Grow w ((wb2.setCell ⟨w.heap.size, 2, none⟩ u).alloc o3) from fun u o3 => (HGW2.out.setd (p := ⟨w.heap.size, 2, none⟩) (Nat.le_refl _) u).allocd o3)
  go_wp2_with (at_builtin; go_must (refine wpList_append_S _ rfl (.tmp 18) (.tmp 20) 24 rfl 54 iI _ 2 32 Tryz.underlying24 hiI hzI0 hzI1 hzI2 rfl (by decide) (.slice (some ⟨wb2.heap.size, 0, none⟩) 0 0) 0 [] (some (wb2.heap.size)) rfl (HLA3.out _) (.slice ia c.indexes.length ic) rfl c.indexes.length _ (HD3.out _ (HGA3.out _ _)) HO3.out (by have := HBD.out; unfold maxLen; omega) (by have := HBD.out; omega) ?_))
  intro v3 wb3 ob3 k1 k2 k3 _
  have hlo3 : ∀ g, ob3 = some g → w.heap.size + 2 ≤ g := fun g hg => by
    rcases k3 with k3 | ⟨g', k3, hge⟩
    · rw [k3] at hg; cases hg; exact HLO2.out
    · rw [k3] at hg; cases hg; have := HLO2.out; first | omega | (simp at hge; omega)
  have hm3 : ∀ u, Mod (fun b => b = w.heap.size) (wb2.setCell ⟨w.heap.size, 2, none⟩ u) ((wb2.setCell ⟨w.heap.size, 2, none⟩ u).alloc (.cells #[] 54)) := fun u => Mod.of_grow ((Grow.rfl' _).allocd _)
  have HM3 := Lib.hid (show Mod (fun b => b = w.heap.size) wb2 wb3 from (((Mod.rfl' (fun b => b = w.heap.size) wb2).setd (p := ⟨w.heap.size, 2, none⟩) (.inl rfl) _).allocd _).step' k2 (fun b hb => .inr (by have hb' : _ = b := hb; omega)))
  have HGW3 := Lib.hid (HGW2.out.modd HM3.out (fun b hb => by omega))
  have HLO3 := Lib.hid (show w.heap.size + 2 ≤ wb3.heap.size from Nat.le_trans HLO2.out HM3.out.size)
  have HB3 := Lib.hid (show wb3.heap[w.heap.size]? = some (.cells #[.slice a0 c.nodes.length c0, .slice a1 c.edges.length c1, .slice a2 c.rules.length c2, .slice ia c.indexes.length ic, .int .i64 c.nextRule] 26 (0, 0)) from (k2.block _ (by have := HLO2.out; simp <;> omega) (fun hb => by have := HLO2.out; omega)).trans (((Grow.rfl' (wb2.setCell ⟨w.heap.size, 2, none⟩ _)).allocd _ |>.heapEq (by have := HLO2.out; simp <;> omega)).trans ((heap_setCell_same wb2 w.heap.size 2 _ _ _ HB2.out).trans rfl)))
  have HZ3 := Lib.hid ((HM3.out.block (w.heap.size + 1) (by have := HLO2.out; omega) (by omega)).trans HZ2.out)
  clear hm3
  have SR0 := Lib.hid (SlR.modS SR0.out HM3.out (fun b hb e => by omega))
  have SR1 := Lib.hid (SlR.modS SR1.out HM3.out (fun b hb e => by omega))
  have SR2 := Lib.hid (SlR.modS SR2.out HM3.out (fun b hb e => by omega))
  have hO3 := rows_own HL3.out HR3.out k1
  have SR3 := Lib.hid (show SlR (fun b => w.heap.size + 2 ≤ b) wb3 2 RIndex v3 c.indexes from hO3.toSl hlo3)
  obtain ⟨a3, c3, rfl⟩ : ∃ a cc, v3 = .slice a c.indexes.length cc := by obtain ⟨_, _, _, h⟩ := hO3; obtain ⟨oa, cap, h, _⟩ := h.isSlice; exact ⟨oa, cap, h⟩
  clear k1 k2 k3 hlo3 hO3
  have zl3 : w.heap.size < wb3.heap.size := blk_lt HB3.out
  have z3 : wb3.cell? ⟨w.heap.size, 3, none⟩ = some (.slice ia c.indexes.length ic) := by rw [blk_cell HB3.out]; rfl
  have zf3 := blk_free HB3.out 3
  have e0 : wb3.cell? ⟨w.heap.size, 0, none⟩ = some (.slice a0 c.nodes.length c0) := by rw [blk_cell HB3.out]; rfl
  have e1 : wb3.cell? ⟨w.heap.size, 1, none⟩ = some (.slice a1 c.edges.length c1) := by rw [blk_cell HB3.out]; rfl
  have e2 : wb3.cell? ⟨w.heap.size, 2, none⟩ = some (.slice a2 c.rules.length c2) := by rw [blk_cell HB3.out]; rfl
  have e4 : wb3.cell? ⟨w.heap.size, 4, none⟩ = some (.int .i64 c.nextRule) := by rw [blk_cell HB3.out]; rfl
  have t0 : wb3.cell? ⟨w.heap.size + 1, 0, none⟩ = some (.slice none 0 0) := by rw [blk_cell HZ3.out]; rfl
  have tf0 := blk_free HZ3.out 0
  have t1 : wb3.cell? ⟨w.heap.size + 1, 1, none⟩ = some (.slice none 0 0) := by rw [blk_cell HZ3.out]; rfl
  have tf1 := blk_free HZ3.out 1
  have t2 : wb3.cell? ⟨w.heap.size + 1, 2, none⟩ = some (.slice none 0 0) := by rw [blk_cell HZ3.out]; rfl
  have tf2 := blk_free HZ3.out 2
  have t3 : wb3.cell? ⟨w.heap.size + 1, 3, none⟩ = some (.slice none 0 0) := by rw [blk_cell HZ3.out]; rfl
  have tf3 := blk_free HZ3.out 3
  have t4 : wb3.cell? ⟨w.heap.size + 1, 4, none⟩ = some (.int .i64 0) := by rw [blk_cell HZ3.out]; rfl
  have tf4 := blk_free HZ3.out 4
  have tl : w.heap.size + 1 < wb3.heap.size := blk_lt HZ3.out
  go_wp2
  have HF := Lib.hid (show Mod (fun b => b = w.heap.size ∨ b = w.heap.size + 1) wb3 _ from ((((((Mod.rfl' (fun b => b = w.heap.size ∨ b = w.heap.size + 1) wb3).setd (p := ⟨w.heap.size, 3, none⟩) (.inl (.inl rfl)) (.slice a3 c.indexes.length c3)).setd (p := ⟨w.heap.size + 1, 0, none⟩) (.inl (.inr rfl)) (.slice a0 c.nodes.length c0)).setd (p := ⟨w.heap.size + 1, 1, none⟩) (.inl (.inr rfl)) (.slice a1 c.edges.length c1)).setd (p := ⟨w.heap.size + 1, 2, none⟩) (.inl (.inr rfl)) (.slice a2 c.rules.length c2)).setd (p := ⟨w.heap.size + 1, 3, none⟩) (.inl (.inr rfl)) (.slice a3 c.indexes.length c3)).setd (p := ⟨w.heap.size + 1, 4, none⟩) (.inl (.inr rfl)) (.int .i64 c.nextRule))
  refine bodyPost_ret (v := c.arg (.slice a0 c.nodes.length c0) (.slice a1 c.edges.length c1) (.slice a2 c.rules.length c2) (.slice a3 c.indexes.length c3)) ?_ rfl ⟨_, _, _, _, rfl, ⟨?_, ?_, ?_, ?_⟩, HGW3.out.modd HF.out (fun b hb => by omega)⟩
  · rw [results_cell1 rfl]
    go_simp
  · exact SlR.sub (SlR.modS SR0.out HF.out (fun b hb e => by omega)) (fun b hb => by omega) (fun _ _ _ h => h)
  · exact SlR.sub (SlR.modS SR1.out HF.out (fun b hb e => by omega)) (fun b hb => by omega) (fun _ _ _ h => h)
  · exact SlR.sub (SlR.modS SR2.out HF.out (fun b hb e => by omega)) (fun b hb => by omega) (fun _ _ _ h => h)
  · exact SlR.sub (SlR.modS SR3.out HF.out (fun b hb e => by omega)) (fun b hb => by omega) (fun _ _ _ h => h)
end Go.Hg
