/- (dirty.spots).note: setting a property; any change that may be done; What changes touch: lengths; the changes one behind the other; what is counted in a map; graph.Load, Copy; graph.Copy; dirty.Concerned; hedgerowref21.Commit; An insertion sort in place: the plain words; hedgerowref21.Broken; law21.wakes; keep.LargeRule, Longs of any; law21.CheckAgrees: returns true. Conditions: those that each theorem names. -/
import Derived.WalkKit
import Derived.WalkSpells
import Derived.WalkLawsBesides
import Derived.Lib.Hide
import Derived.BigQuiet
import Derived.Deep.LoopGhost
import Derived.Test.YtanijffgogpmdaaGreatRows
import Derived.Lib.SliceRun
import Derived.WideMake
import Derived.Deep.RegionLaw
import Derived.Lib.Overlaps
import Derived.Deep.RegionHeld3
import Derived.Laws.ResultCell
import Derived.Laws.EntriesVeiled
import Derived.Maps.OwnOps
import Derived.Maps.OwnSet
import Derived.Carry
import Derived.Lib.SlKeysI
import Derived.Maps.RangeWalk
import Derived.Lib.SlMapFilter
import Derived.Deep.DeepCutAuto
import Derived.Shelf.SlIterI.Nil
import Derived.Shelf.SortM.Plain
import Derived.Shelf.SortM.SortNone
import Derived.Shelf.SlMaps.DeleteFunc
import Derived.Shelf.SlSortCmp.WholeK
import Derived.Shelf.SlIterI.Collect
import Derived.RangeFuncBox
import Derived.RangeFuncLeaves
import Derived.RangeFuncWrites
import Derived.Maps.AppendAt
import Derived.Deep.CutBlock
import Derived.BigRegion
import Derived.Test.YtanijffgogpmdaaGreatDirK
namespace Go.Hg
open Go.RowKit Go.Proofs MapKept Go.Maps

set_option maxRecDepth 100000 in
set_option maxHeartbeats 8000000 in
theorem note5 (S : Nat → Prop) (Bm B n : Nat) (M : List PSpot) (G : PGraph) (c : PCat) (o : POp) (w : World) (h : GraphOk 120 S w B G) (hG : GInv G) (hm : mayG c o G = 0) (hmk : MapK PSpot.args w Bm (cntK M) n) (hM : M.length ≤ 100000) (hS : ¬ S Bm) (hk : o.kind = 5) :
    Calls Tryz.prog 86 #[.map (some Bm), .pointer (some ⟨B, 0, none⟩), o.args] w (NoteP Bm n M G o w) := by
  have HOK := Lib.hid h; have HI := Lib.hid hG; have HMK := Lib.hid hmk; have HML := Lib.hid hM; have HS := Lib.hid hS
  obtain ⟨kind, id, typ, from_, to_, name, v, cascade⟩ := o
  subst hk
  have HM := Lib.hid hm
  have HW := Lib.hid (show ∀ o1, Grow w (w.alloc o1) from fun o1 => (Grow.rfl' w).allocd o1)
  have HBX := Lib.hid (opBox w ⟨5, id, typ, from_, to_, name, v, cascade⟩)
  have hbm := hmk.lt
  have HB1 := Lib.hid (show G.nodes.length ≤ 1099511627776 ∧ G.edges.length ≤ 1099511627776 by have := hG.items; omega)
  have HB2 := Lib.hid (show ∀ x ∈ G.nodes, x.props.length ≤ 1099511627776 from fun x hx => by have := (hG.nodesB x hx).2.2; omega)
  have HB3 := Lib.hid (show ∀ x ∈ G.edges, x.props.length ≤ 1099511627776 from fun x hx => by have := (hG.edgesB x hx).2.2; omega)
  clear h hG hm hmk hM hS
  go_enter Tryz.func86, Tryz.ntmps86
  go_wp2_with fail
  refine (graphGetNode S B G id _ (HOK.out.grow (HW.out _)).rd HI.out.nodes HB1.out.1 HB2.out).mono ?_
  rintro e w2 h2
  obtain ⟨i2, t2, a2, n2, c2, b2, rfl, hgot, g2⟩ := h2.got
  have HN := Lib.hid hgot
  have HG2 := Lib.hid ((HW.out _).step g2)
  have HOP2 := Lib.hid (HBX.out.grow g2)
  clear g2 hgot h2
  obtain ⟨hl2, p0, p1, -⟩ := HOP2.out.at
  have HW2 := Lib.hid (show ∀ o1, Grow w2 (w2.alloc o1) from fun o1 => (Grow.rfl' w2).allocd o1)
  have HNB := Lib.hid (heap_alloc_new w2 (.cells #[.int .i64 i2, .string t2, .slice a2 n2 c2] 94))
  go_wp2_with fail
  refine (graphGetEdge S B G id _ (HOK.out.grow (HG2.out.step (HW2.out _))).rd HI.out.edges HB1.out.2 HB3.out).mono ?_
  rintro e w3 h3
  obtain ⟨i3, t3, f3, o3, a3, n3, c3, b3, rfl, hgot, g3⟩ := h3.got
  have HE := Lib.hid hgot
  have HG3 := Lib.hid (HG2.out.step ((HW2.out _).step g3))
  have HOP3 := Lib.hid (HOP2.out.grow ((HW2.out _).step g3))
  have HNB3 := Lib.hid ((g3.heapEq (blk_lt HNB.out)).trans HNB.out)
  have HL3 := Lib.hid (show w2.heap.size + 1 ≤ w3.heap.size by have := g3.size; simpa using this)
  clear g3 hgot h3 p0 p1 hl2
  obtain ⟨hl3, p0, -⟩ := HOP3.out.at
  have HW3 := Lib.hid (show ∀ o1, Grow w3 (w3.alloc o1) from fun o1 => (Grow.rfl' w3).allocd o1)
  obtain ⟨W4, hW4⟩ : ∃ W4, w3.alloc (.cells #[.int .i64 i3, .string t3, .int .i64 f3, .int .i64 o3, .slice a3 n3 c3] 98) = W4 := ⟨_, rfl⟩
  have HEB4 := Lib.hid (show W4.heap[w3.heap.size]? = some (.cells #[.int .i64 i3, .string t3, .int .i64 f3, .int .i64 o3, .slice a3 n3 c3] 98 (0, 0)) from hW4 ▸ heap_alloc_new w3 _)
  have HG34 := Lib.hid (show Grow w3 W4 from hW4 ▸ HW3.out _)
  have HG4 := Lib.hid (HG3.out.step HG34.out)
  have HBM := Lib.hid (show Bm < w.heap.size from hbm)
  have HSZ := Lib.hid (show w.heap.size ≤ w2.heap.size ∧ w2.heap.size < w3.heap.size ∧ w3.heap.size < W4.heap.size from ⟨HG2.out.size, HL3.out, blk_lt HEB4.out⟩)
  have HOPm := Lib.hid (show ∀ w', Mod (fun q => q = Bm) W4 w' → OpAt w' w.heap.size ⟨5, id, typ, from_, to_, name, v, cascade⟩ from fun w' g => (HOP3.out.grow HG34.out).modd g (by have := HBM.out; omega))
  have HNBm := Lib.hid (show ∀ w', Mod (fun q => q = Bm) W4 w' → w'.heap[w2.heap.size]? = some (.cells #[.int .i64 i2, .string t2, .slice a2 n2 c2] 94 (0, 0)) from fun w' g => (g.block _ (by have := HSZ.out; omega) (by have := HSZ.out; have := HBM.out; omega)).trans ((HG34.out.heapEq HSZ.out.2.1).trans HNB3.out))
  have HEBm := Lib.hid (show ∀ w', Mod (fun q => q = Bm) W4 w' → w'.heap[w3.heap.size]? = some (.cells #[.int .i64 i3, .string t3, .int .i64 f3, .int .i64 o3, .slice a3 n3 c3] 98 (0, 0)) from fun w' g => (g.block _ (by have := HSZ.out; omega) (by have := HSZ.out; have := HBM.out; omega)).trans HEB4.out)
  have HM4 := Lib.hid (show MapK PSpot.args W4.drew Bm (cntK M) n from HMK.out.grow (HG4.out.drewd))
  have HD4 := Lib.hid (show Mod (fun q => q = Bm) W4 W4.drew from Mod.of_grow ((Grow.rfl' W4).drewd))
  have HW4e := Lib.hid hW4
  clear hbm hW4
  cases b2
  · cases b3
    · have HM6 := Lib.hid (show MapK PSpot.args W4 Bm (cntK M) n from HMK.out.grow HG4.out)
      have HD6 := Lib.hid (show Mod (fun q => q = Bm) w W4 from Mod.of_grow HG4.out)
      go_wp2_with fail
      rw [HW4e.out]
      clear HW4e p0 hl3
      go_wp2
      go_end0
      exact ⟨rfl, by rw [noteG_5 HN.out HE.out]; simp only [if_false, Bool.false_eq_true, List.append_nil]; exact HM6.out.mono (by omega), HD6.out⟩
    · have HWR := Lib.hid (wrapK (M := M) (y := (PSpot.mk 2 t3 name)) (by have := HML.out; omega))
      go_wp2_with fail
      rw [HW4e.out]
      clear HW4e p0 hl3
      refine wp_region_noPanic ?_
      refine wp_region_held_drew (S := fun w' => w'.cell? ⟨w3.heap.size, 1, none⟩ = some (.string t3) ∧ w'.cell? ⟨w.heap.size, 5, none⟩ = some (.string name)) (by kernel_rfl) ?_ (fun hHeld => ?_)
      · exact ⟨(blk_cell (HEBm.out _ HD4.out) _).trans rfl, ((HOPm.out _ HD4.out).at).2.2.2.2.2.2.1⟩
      refine' wpAnyH_take (i := 0) (oi := ?o85) (v := _) (by simp only [List.getElem?_toArray, List.getElem?_cons_zero]; rfl) (by kernel_rfl) (by kernel_rfl) (by kernel_rfl) (fun _ _ _ h => h) (Or.inl ⟨by rfl, ?y85⟩) (by assumption) ?r85
      case y85 =>
        intro wS hSw
        try dsimp only at hSw
        go_simp
        all_goals with_reducible rfl
      simp only [Act.put, List.setIfInBounds_toArray, List.set_cons_zero, List.set_cons_succ]
      refine' wpAnyH_take (i := 1) (oi := ?o86) (v := _) (by simp only [List.getElem?_toArray, List.getElem?_cons_succ, List.getElem?_cons_zero]; rfl) (by kernel_rfl) (by kernel_rfl) (by kernel_rfl) (fun _ _ _ h => h) (Or.inl ⟨by rfl, ?y86⟩) (by assumption) ?r86
      case y86 =>
        intro wS hSw
        try dsimp only at hSw
        go_simp
        all_goals with_reducible rfl
      simp only [Act.put, List.setIfInBounds_toArray, List.set_cons_zero, List.set_cons_succ]
      refine' wpAnyH_take (i := 2) (oi := ?o87) (v := _) (by simp only [List.getElem?_toArray, List.getElem?_cons_succ, List.getElem?_cons_zero]; rfl) (by kernel_rfl) (by kernel_rfl) (by kernel_rfl) (fun _ _ _ h => h) (Or.inl ⟨by rfl, ?y87⟩) (by assumption) ?r87
      case y87 =>
        intro wS hSw
        try dsimp only at hSw
        go_simp
        all_goals with_reducible rfl
      simp only [Act.put, List.setIfInBounds_toArray, List.set_cons_zero, List.set_cons_succ]
      refine' wpAnyH_take (i := 3) (oi := ?o88) (v := _) (by simp only [List.getElem?_toArray, List.getElem?_cons_succ, List.getElem?_cons_zero]; rfl) (by kernel_rfl) (by kernel_rfl) (by kernel_rfl) (fun _ _ _ h => h) (Or.inl ⟨by rfl, ?y88⟩) (by assumption) ?r88
      case y88 =>
        intro wS hSw
        try dsimp only at hSw
        go_simp
        all_goals with_reducible rfl
      simp only [Act.put, List.setIfInBounds_toArray, List.set_cons_zero, List.set_cons_succ]
      refine' wpAnyH_take (i := 4) (oi := ?o89) (v := _) (by simp only [List.getElem?_toArray, List.getElem?_cons_succ, List.getElem?_cons_zero]; rfl) (by kernel_rfl) (by kernel_rfl) (by kernel_rfl) (fun _ _ _ h => h) (Or.inl ⟨by rfl, ?y89⟩) (by assumption) ?r89
      case y89 =>
        intro wS hSw
        try dsimp only at hSw
        go_simp
        all_goals with_reducible rfl
      simp only [Act.put, List.setIfInBounds_toArray, List.set_cons_zero, List.set_cons_succ]
      refine' wpAnyH_take (i := 5) (oi := ?o90) (v := _) (by simp only [List.getElem?_toArray, List.getElem?_cons_succ, List.getElem?_cons_zero]; rfl) (by kernel_rfl) (by kernel_rfl) (by kernel_rfl) (fun _ _ _ h => h) (Or.inl ⟨by rfl, ?y90⟩) (by assumption) ?r90
      case y90 =>
        intro wS hSw
        try dsimp only at hSw
        go_simp
        all_goals with_reducible rfl
      simp only [Act.put, List.setIfInBounds_toArray, List.set_cons_zero, List.set_cons_succ]
      refine wpAnyH_ready (rs := [6, 8]) (by kernel_rfl) (by simp) ?_
      refine' AllReadyH.cons (o := ?o91) (by simp only [List.getElem?_toArray, List.getElem?_cons_succ, List.getElem?_cons_zero]; rfl) (fun K hK => ?s91) ?m91
      rotate_left
      · refine' AllReadyH.cons (o := ?o92) (by simp only [List.getElem?_toArray, List.getElem?_cons_succ, List.getElem?_cons_zero]; rfl) (fun K hK => ?s92) ?m92
        case m92 => exact AllReadyH.nil
        refine step_entryK rfl (.tmp 110) (.tmp 115) 148 rfl 136 3 Tryz.underlying148 keySpot (.int .i64 0) zeroIntV (by rfl) HM4.out (PSpot.mk 2 t3 name) (by rfl) _ (cntK_getD _ (PSpot.mk 2 t3 name)) ?_
        intro w5 s5 q1 q2 q3 q4
        refine hK.out _ _ ?_ (fun hHeld => ?_)
        · exact ⟨(blk_cell (HEBm.out w5 (HD4.out.step q3)) _).trans rfl, ((HOPm.out w5 (HD4.out.step q3)).at).2.2.2.2.2.2.1⟩
        clear hK K
        try simp only [Act.put, List.setIfInBounds_toArray, List.set_cons_zero, List.set_cons_succ]
        refine' wpAnyH_take (i := 9) (oi := ?o93) (v := _) (by simp only [List.getElem?_toArray, List.getElem?_cons_succ, List.getElem?_cons_zero]; rfl) (by kernel_rfl) (by kernel_rfl) (by kernel_rfl) (fun _ _ _ h => h) (Or.inl ⟨by rfl, ?y93⟩) (by assumption) ?r93
        case y93 =>
          intro wS hSw
          try dsimp only at hSw
          go_simp
          all_goals with_reducible rfl
        simp only [Act.put, List.setIfInBounds_toArray, List.set_cons_zero, List.set_cons_succ]
        refine wpAnyH_ready (rs := [6]) (by kernel_rfl) (by simp) ?_
        refine' AllReadyH.cons (o := ?o94) (by simp only [List.getElem?_toArray, List.getElem?_cons_succ, List.getElem?_cons_zero]; rfl) (fun K hK => ?s94) ?m94
        case m94 => exact AllReadyH.nil
        refine step_lookK rfl (.tmp 110) (.tmp 115) 148 rfl 136 3 Tryz.underlying148 keySpot (.int .i64 0) (zeroIntV _) (by rfl) q1 (PSpot.mk 2 t3 name) (by rfl) (.int .i64 ((M).count (PSpot.mk 2 t3 name) : Int)) (by rw [kput_same]; rfl) ?_
        refine hK.out _ _ ?_ (fun hHeld => ?_)
        · exact ⟨(blk_cell (HEBm.out w5 (HD4.out.step q3)) _).trans rfl, ((HOPm.out w5 (HD4.out.step q3)).at).2.2.2.2.2.2.1⟩
        clear hK K
        try simp only [Act.put, List.setIfInBounds_toArray, List.set_cons_zero, List.set_cons_succ]
        refine' wpAnyH_take (i := 7) (oi := ?o95) (v := _) (by simp only [List.getElem?_toArray, List.getElem?_cons_succ, List.getElem?_cons_zero]; rfl) (by kernel_rfl) (by kernel_rfl) (by kernel_rfl) (fun _ _ _ h => h) (Or.inl ⟨by rfl, ?y95⟩) (by assumption) ?r95
        case y95 =>
          intro wS hSw
          try dsimp only at hSw
          go_simp
          all_goals with_reducible rfl
        simp only [Act.put, List.setIfInBounds_toArray, List.set_cons_zero, List.set_cons_succ]
        refine wpAnyH_ready (rs := [10]) (by kernel_rfl) (by simp) ?_
        refine' AllReadyH.cons (o := ?o96) (by simp only [List.getElem?_toArray, List.getElem?_cons_succ, List.getElem?_cons_zero]; rfl) (fun K hK => ?s96) ?m96
        case m96 => exact AllReadyH.nil
        refine step_storeK rfl (.tmp 110) (.tmp 119) (.tmp 117) 148 rfl 136 keySpot (by rfl) q1 (PSpot.mk 2 t3 name) s5 (by rfl) q2 (.int .i64 (((M).count (PSpot.mk 2 t3 name) : Int) + 1)) (by simp [Act.eval, HWR.out]) ?_
        intro w6 p1 p3 p4
        rw [kput_twice, ← kput_twice _ _ (.int .i64 0), cntK_step] at p1
        refine hK.out _ _ ?_ (fun hHeld => ?_)
        · exact ⟨(blk_cell (HEBm.out w6 (HD4.out.step (q3.step p3))) _).trans rfl, ((HOPm.out w6 (HD4.out.step (q3.step p3))).at).2.2.2.2.2.2.1⟩
        clear hK K
        try simp only [Act.put]
        refine wpAnyH_done (by kernel_rfl) ?_ _
        refine NoPanic.normal ?_
        have HM6 := Lib.hid p1
        have HD6 := Lib.hid ((Mod.of_grow HG4.out).step (HD4.out.step (q3.step p3)))
        clear q1 q2 q3 q4 p1 p3 p4
        go_wp2
        go_end0
        exact ⟨rfl, by rw [noteG_5 HN.out HE.out]; simp only [if_true, if_false, Bool.false_eq_true, List.nil_append]; exact HM6.out.mono (by omega), HD6.out⟩
      refine step_lookK rfl (.tmp 110) (.tmp 115) 148 rfl 136 3 Tryz.underlying148 keySpot (.int .i64 0) (zeroIntV _) (by rfl) HM4.out (PSpot.mk 2 t3 name) (by rfl) _ (cntK_getD _ (PSpot.mk 2 t3 name)) ?_
      refine hK.out _ _ ?_ (fun hHeld => ?_)
      · exact ⟨(blk_cell (HEBm.out _ HD4.out) _).trans rfl, ((HOPm.out _ HD4.out).at).2.2.2.2.2.2.1⟩
      clear hK K
      try simp only [Act.put, List.setIfInBounds_toArray, List.set_cons_zero, List.set_cons_succ]
      refine' wpAnyH_take (i := 7) (oi := ?o97) (v := _) (by simp only [List.getElem?_toArray, List.getElem?_cons_succ, List.getElem?_cons_zero]; rfl) (by kernel_rfl) (by kernel_rfl) (by kernel_rfl) (fun _ _ _ h => h) (Or.inl ⟨by rfl, ?y97⟩) (by assumption) ?r97
      case y97 =>
        intro wS hSw
        try dsimp only at hSw
        go_simp
        all_goals with_reducible rfl
      simp only [Act.put, List.setIfInBounds_toArray, List.set_cons_zero, List.set_cons_succ]
      refine wpAnyH_ready (rs := [8]) (by kernel_rfl) (by simp) ?_
      refine' AllReadyH.cons (o := ?o98) (by simp only [List.getElem?_toArray, List.getElem?_cons_succ, List.getElem?_cons_zero]; rfl) (fun K hK => ?s98) ?m98
      case m98 => exact AllReadyH.nil
      refine step_entryK rfl (.tmp 110) (.tmp 115) 148 rfl 136 3 Tryz.underlying148 keySpot (.int .i64 0) zeroIntV (by rfl) HM4.out (PSpot.mk 2 t3 name) (by rfl) _ (cntK_getD _ (PSpot.mk 2 t3 name)) ?_
      intro w5 s5 q1 q2 q3 q4
      refine hK.out _ _ ?_ (fun hHeld => ?_)
      · exact ⟨(blk_cell (HEBm.out w5 (HD4.out.step q3)) _).trans rfl, ((HOPm.out w5 (HD4.out.step q3)).at).2.2.2.2.2.2.1⟩
      clear hK K
      try simp only [Act.put, List.setIfInBounds_toArray, List.set_cons_zero, List.set_cons_succ]
      refine' wpAnyH_take (i := 9) (oi := ?o99) (v := _) (by simp only [List.getElem?_toArray, List.getElem?_cons_succ, List.getElem?_cons_zero]; rfl) (by kernel_rfl) (by kernel_rfl) (by kernel_rfl) (fun _ _ _ h => h) (Or.inl ⟨by rfl, ?y99⟩) (by assumption) ?r99
      case y99 =>
        intro wS hSw
        try dsimp only at hSw
        go_simp
        all_goals with_reducible rfl
      simp only [Act.put, List.setIfInBounds_toArray, List.set_cons_zero, List.set_cons_succ]
      refine wpAnyH_ready (rs := [10]) (by kernel_rfl) (by simp) ?_
      refine' AllReadyH.cons (o := ?o100) (by simp only [List.getElem?_toArray, List.getElem?_cons_succ, List.getElem?_cons_zero]; rfl) (fun K hK => ?s100) ?m100
      case m100 => exact AllReadyH.nil
      refine step_storeK rfl (.tmp 110) (.tmp 119) (.tmp 117) 148 rfl 136 keySpot (by rfl) q1 (PSpot.mk 2 t3 name) s5 (by rfl) q2 (.int .i64 (((M).count (PSpot.mk 2 t3 name) : Int) + 1)) (by simp [Act.eval, HWR.out]) ?_
      intro w6 p1 p3 p4
      rw [kput_twice, ← kput_twice _ _ (.int .i64 0), cntK_step] at p1
      refine hK.out _ _ ?_ (fun hHeld => ?_)
      · exact ⟨(blk_cell (HEBm.out w6 (HD4.out.step (q3.step p3))) _).trans rfl, ((HOPm.out w6 (HD4.out.step (q3.step p3))).at).2.2.2.2.2.2.1⟩
      clear hK K
      try simp only [Act.put]
      refine wpAnyH_done (by kernel_rfl) ?_ _
      refine NoPanic.normal ?_
      have HM6 := Lib.hid p1
      have HD6 := Lib.hid ((Mod.of_grow HG4.out).step (HD4.out.step (q3.step p3)))
      clear q1 q2 q3 q4 p1 p3 p4
      go_wp2
      go_end0
      exact ⟨rfl, by rw [noteG_5 HN.out HE.out]; simp only [if_true, if_false, Bool.false_eq_true, List.nil_append]; exact HM6.out.mono (by omega), HD6.out⟩
  · have HWR := Lib.hid (wrapK (M := M) (y := (PSpot.mk 1 t2 name)) (by have := HML.out; omega))
    cases b3
    · go_wp2_with fail
      rw [HW4e.out]
      clear HW4e p0 hl3
      refine wp_region_noPanic ?_
      refine wp_region_held_drew (S := fun w' => w'.cell? ⟨w2.heap.size, 1, none⟩ = some (.string t2) ∧ w'.cell? ⟨w.heap.size, 5, none⟩ = some (.string name)) (by kernel_rfl) ?_ (fun hHeld => ?_)
      · exact ⟨(blk_cell (HNBm.out _ HD4.out) _).trans rfl, ((HOPm.out _ HD4.out).at).2.2.2.2.2.2.1⟩
      refine' wpAnyH_take (i := 0) (oi := ?o101) (v := _) (by simp only [List.getElem?_toArray, List.getElem?_cons_zero]; rfl) (by kernel_rfl) (by kernel_rfl) (by kernel_rfl) (fun _ _ _ h => h) (Or.inl ⟨by rfl, ?y101⟩) (by assumption) ?r101
      case y101 =>
        intro wS hSw
        try dsimp only at hSw
        go_simp
        all_goals with_reducible rfl
      simp only [Act.put, List.setIfInBounds_toArray, List.set_cons_zero, List.set_cons_succ]
      refine' wpAnyH_take (i := 1) (oi := ?o102) (v := _) (by simp only [List.getElem?_toArray, List.getElem?_cons_succ, List.getElem?_cons_zero]; rfl) (by kernel_rfl) (by kernel_rfl) (by kernel_rfl) (fun _ _ _ h => h) (Or.inl ⟨by rfl, ?y102⟩) (by assumption) ?r102
      case y102 =>
        intro wS hSw
        try dsimp only at hSw
        go_simp
        all_goals with_reducible rfl
      simp only [Act.put, List.setIfInBounds_toArray, List.set_cons_zero, List.set_cons_succ]
      refine' wpAnyH_take (i := 2) (oi := ?o103) (v := _) (by simp only [List.getElem?_toArray, List.getElem?_cons_succ, List.getElem?_cons_zero]; rfl) (by kernel_rfl) (by kernel_rfl) (by kernel_rfl) (fun _ _ _ h => h) (Or.inl ⟨by rfl, ?y103⟩) (by assumption) ?r103
      case y103 =>
        intro wS hSw
        try dsimp only at hSw
        go_simp
        all_goals with_reducible rfl
      simp only [Act.put, List.setIfInBounds_toArray, List.set_cons_zero, List.set_cons_succ]
      refine' wpAnyH_take (i := 3) (oi := ?o104) (v := _) (by simp only [List.getElem?_toArray, List.getElem?_cons_succ, List.getElem?_cons_zero]; rfl) (by kernel_rfl) (by kernel_rfl) (by kernel_rfl) (fun _ _ _ h => h) (Or.inl ⟨by rfl, ?y104⟩) (by assumption) ?r104
      case y104 =>
        intro wS hSw
        try dsimp only at hSw
        go_simp
        all_goals with_reducible rfl
      simp only [Act.put, List.setIfInBounds_toArray, List.set_cons_zero, List.set_cons_succ]
      refine' wpAnyH_take (i := 4) (oi := ?o105) (v := _) (by simp only [List.getElem?_toArray, List.getElem?_cons_succ, List.getElem?_cons_zero]; rfl) (by kernel_rfl) (by kernel_rfl) (by kernel_rfl) (fun _ _ _ h => h) (Or.inl ⟨by rfl, ?y105⟩) (by assumption) ?r105
      case y105 =>
        intro wS hSw
        try dsimp only at hSw
        go_simp
        all_goals with_reducible rfl
      simp only [Act.put, List.setIfInBounds_toArray, List.set_cons_zero, List.set_cons_succ]
      refine' wpAnyH_take (i := 5) (oi := ?o106) (v := _) (by simp only [List.getElem?_toArray, List.getElem?_cons_succ, List.getElem?_cons_zero]; rfl) (by kernel_rfl) (by kernel_rfl) (by kernel_rfl) (fun _ _ _ h => h) (Or.inl ⟨by rfl, ?y106⟩) (by assumption) ?r106
      case y106 =>
        intro wS hSw
        try dsimp only at hSw
        go_simp
        all_goals with_reducible rfl
      simp only [Act.put, List.setIfInBounds_toArray, List.set_cons_zero, List.set_cons_succ]
      refine wpAnyH_ready (rs := [6, 8]) (by kernel_rfl) (by simp) ?_
      refine' AllReadyH.cons (o := ?o107) (by simp only [List.getElem?_toArray, List.getElem?_cons_succ, List.getElem?_cons_zero]; rfl) (fun K hK => ?s107) ?m107
      rotate_left
      · refine' AllReadyH.cons (o := ?o108) (by simp only [List.getElem?_toArray, List.getElem?_cons_succ, List.getElem?_cons_zero]; rfl) (fun K hK => ?s108) ?m108
        case m108 => exact AllReadyH.nil
        refine step_entryK rfl (.tmp 99) (.tmp 104) 148 rfl 136 3 Tryz.underlying148 keySpot (.int .i64 0) zeroIntV (by rfl) HM4.out (PSpot.mk 1 t2 name) (by rfl) _ (cntK_getD _ (PSpot.mk 1 t2 name)) ?_
        intro w5 s5 q1 q2 q3 q4
        refine hK.out _ _ ?_ (fun hHeld => ?_)
        · exact ⟨(blk_cell (HNBm.out w5 (HD4.out.step q3)) _).trans rfl, ((HOPm.out w5 (HD4.out.step q3)).at).2.2.2.2.2.2.1⟩
        clear hK K
        try simp only [Act.put, List.setIfInBounds_toArray, List.set_cons_zero, List.set_cons_succ]
        refine' wpAnyH_take (i := 9) (oi := ?o109) (v := _) (by simp only [List.getElem?_toArray, List.getElem?_cons_succ, List.getElem?_cons_zero]; rfl) (by kernel_rfl) (by kernel_rfl) (by kernel_rfl) (fun _ _ _ h => h) (Or.inl ⟨by rfl, ?y109⟩) (by assumption) ?r109
        case y109 =>
          intro wS hSw
          try dsimp only at hSw
          go_simp
          all_goals with_reducible rfl
        simp only [Act.put, List.setIfInBounds_toArray, List.set_cons_zero, List.set_cons_succ]
        refine wpAnyH_ready (rs := [6]) (by kernel_rfl) (by simp) ?_
        refine' AllReadyH.cons (o := ?o110) (by simp only [List.getElem?_toArray, List.getElem?_cons_succ, List.getElem?_cons_zero]; rfl) (fun K hK => ?s110) ?m110
        case m110 => exact AllReadyH.nil
        refine step_lookK rfl (.tmp 99) (.tmp 104) 148 rfl 136 3 Tryz.underlying148 keySpot (.int .i64 0) (zeroIntV _) (by rfl) q1 (PSpot.mk 1 t2 name) (by rfl) (.int .i64 ((M).count (PSpot.mk 1 t2 name) : Int)) (by rw [kput_same]; rfl) ?_
        refine hK.out _ _ ?_ (fun hHeld => ?_)
        · exact ⟨(blk_cell (HNBm.out w5 (HD4.out.step q3)) _).trans rfl, ((HOPm.out w5 (HD4.out.step q3)).at).2.2.2.2.2.2.1⟩
        clear hK K
        try simp only [Act.put, List.setIfInBounds_toArray, List.set_cons_zero, List.set_cons_succ]
        refine' wpAnyH_take (i := 7) (oi := ?o111) (v := _) (by simp only [List.getElem?_toArray, List.getElem?_cons_succ, List.getElem?_cons_zero]; rfl) (by kernel_rfl) (by kernel_rfl) (by kernel_rfl) (fun _ _ _ h => h) (Or.inl ⟨by rfl, ?y111⟩) (by assumption) ?r111
        case y111 =>
          intro wS hSw
          try dsimp only at hSw
          go_simp
          all_goals with_reducible rfl
        simp only [Act.put, List.setIfInBounds_toArray, List.set_cons_zero, List.set_cons_succ]
        refine wpAnyH_ready (rs := [10]) (by kernel_rfl) (by simp) ?_
        refine' AllReadyH.cons (o := ?o112) (by simp only [List.getElem?_toArray, List.getElem?_cons_succ, List.getElem?_cons_zero]; rfl) (fun K hK => ?s112) ?m112
        case m112 => exact AllReadyH.nil
        refine step_storeK rfl (.tmp 99) (.tmp 108) (.tmp 106) 148 rfl 136 keySpot (by rfl) q1 (PSpot.mk 1 t2 name) s5 (by rfl) q2 (.int .i64 (((M).count (PSpot.mk 1 t2 name) : Int) + 1)) (by simp [Act.eval, HWR.out]) ?_
        intro w6 p1 p3 p4
        rw [kput_twice, ← kput_twice _ _ (.int .i64 0), cntK_step] at p1
        refine hK.out _ _ ?_ (fun hHeld => ?_)
        · exact ⟨(blk_cell (HNBm.out w6 (HD4.out.step (q3.step p3))) _).trans rfl, ((HOPm.out w6 (HD4.out.step (q3.step p3))).at).2.2.2.2.2.2.1⟩
        clear hK K
        try simp only [Act.put]
        refine wpAnyH_done (by kernel_rfl) ?_ _
        refine NoPanic.normal ?_
        have HM6 := Lib.hid p1
        have HD6 := Lib.hid ((Mod.of_grow HG4.out).step (HD4.out.step (q3.step p3)))
        clear q1 q2 q3 q4 p1 p3 p4
        go_wp2
        go_end0
        exact ⟨rfl, by rw [noteG_5 HN.out HE.out]; simp only [if_true, if_false, Bool.false_eq_true, List.append_nil]; exact HM6.out.mono (by omega), HD6.out⟩
      refine step_lookK rfl (.tmp 99) (.tmp 104) 148 rfl 136 3 Tryz.underlying148 keySpot (.int .i64 0) (zeroIntV _) (by rfl) HM4.out (PSpot.mk 1 t2 name) (by rfl) _ (cntK_getD _ (PSpot.mk 1 t2 name)) ?_
      refine hK.out _ _ ?_ (fun hHeld => ?_)
      · exact ⟨(blk_cell (HNBm.out _ HD4.out) _).trans rfl, ((HOPm.out _ HD4.out).at).2.2.2.2.2.2.1⟩
      clear hK K
      try simp only [Act.put, List.setIfInBounds_toArray, List.set_cons_zero, List.set_cons_succ]
      refine' wpAnyH_take (i := 7) (oi := ?o113) (v := _) (by simp only [List.getElem?_toArray, List.getElem?_cons_succ, List.getElem?_cons_zero]; rfl) (by kernel_rfl) (by kernel_rfl) (by kernel_rfl) (fun _ _ _ h => h) (Or.inl ⟨by rfl, ?y113⟩) (by assumption) ?r113
      case y113 =>
        intro wS hSw
        try dsimp only at hSw
        go_simp
        all_goals with_reducible rfl
      simp only [Act.put, List.setIfInBounds_toArray, List.set_cons_zero, List.set_cons_succ]
      refine wpAnyH_ready (rs := [8]) (by kernel_rfl) (by simp) ?_
      refine' AllReadyH.cons (o := ?o114) (by simp only [List.getElem?_toArray, List.getElem?_cons_succ, List.getElem?_cons_zero]; rfl) (fun K hK => ?s114) ?m114
      case m114 => exact AllReadyH.nil
      refine step_entryK rfl (.tmp 99) (.tmp 104) 148 rfl 136 3 Tryz.underlying148 keySpot (.int .i64 0) zeroIntV (by rfl) HM4.out (PSpot.mk 1 t2 name) (by rfl) _ (cntK_getD _ (PSpot.mk 1 t2 name)) ?_
      intro w5 s5 q1 q2 q3 q4
      refine hK.out _ _ ?_ (fun hHeld => ?_)
      · exact ⟨(blk_cell (HNBm.out w5 (HD4.out.step q3)) _).trans rfl, ((HOPm.out w5 (HD4.out.step q3)).at).2.2.2.2.2.2.1⟩
      clear hK K
      try simp only [Act.put, List.setIfInBounds_toArray, List.set_cons_zero, List.set_cons_succ]
      refine' wpAnyH_take (i := 9) (oi := ?o115) (v := _) (by simp only [List.getElem?_toArray, List.getElem?_cons_succ, List.getElem?_cons_zero]; rfl) (by kernel_rfl) (by kernel_rfl) (by kernel_rfl) (fun _ _ _ h => h) (Or.inl ⟨by rfl, ?y115⟩) (by assumption) ?r115
      case y115 =>
        intro wS hSw
        try dsimp only at hSw
        go_simp
        all_goals with_reducible rfl
      simp only [Act.put, List.setIfInBounds_toArray, List.set_cons_zero, List.set_cons_succ]
      refine wpAnyH_ready (rs := [10]) (by kernel_rfl) (by simp) ?_
      refine' AllReadyH.cons (o := ?o116) (by simp only [List.getElem?_toArray, List.getElem?_cons_succ, List.getElem?_cons_zero]; rfl) (fun K hK => ?s116) ?m116
      case m116 => exact AllReadyH.nil
      refine step_storeK rfl (.tmp 99) (.tmp 108) (.tmp 106) 148 rfl 136 keySpot (by rfl) q1 (PSpot.mk 1 t2 name) s5 (by rfl) q2 (.int .i64 (((M).count (PSpot.mk 1 t2 name) : Int) + 1)) (by simp [Act.eval, HWR.out]) ?_
      intro w6 p1 p3 p4
      rw [kput_twice, ← kput_twice _ _ (.int .i64 0), cntK_step] at p1
      refine hK.out _ _ ?_ (fun hHeld => ?_)
      · exact ⟨(blk_cell (HNBm.out w6 (HD4.out.step (q3.step p3))) _).trans rfl, ((HOPm.out w6 (HD4.out.step (q3.step p3))).at).2.2.2.2.2.2.1⟩
      clear hK K
      try simp only [Act.put]
      refine wpAnyH_done (by kernel_rfl) ?_ _
      refine NoPanic.normal ?_
      have HM6 := Lib.hid p1
      have HD6 := Lib.hid ((Mod.of_grow HG4.out).step (HD4.out.step (q3.step p3)))
      clear q1 q2 q3 q4 p1 p3 p4
      go_wp2
      go_end0
      exact ⟨rfl, by rw [noteG_5 HN.out HE.out]; simp only [if_true, if_false, Bool.false_eq_true, List.append_nil]; exact HM6.out.mono (by omega), HD6.out⟩
    · go_wp2_with fail
      rw [HW4e.out]
      clear HW4e p0 hl3
      go_cut [] (fun wx => MapK PSpot.args wx Bm (cntK (M ++ [(PSpot.mk 1 t2 name)])) (n + 1) ∧ Mod (fun q => q = Bm) W4 wx)
      case first =>
        refine wp_region_noPanic ?_
        refine wp_region_held_drew (S := fun w' => w'.cell? ⟨w2.heap.size, 1, none⟩ = some (.string t2) ∧ w'.cell? ⟨w.heap.size, 5, none⟩ = some (.string name)) (by kernel_rfl) ?_ (fun hHeld => ?_)
        · exact ⟨(blk_cell (HNBm.out _ HD4.out) _).trans rfl, ((HOPm.out _ HD4.out).at).2.2.2.2.2.2.1⟩
        refine' wpAnyH_take (i := 0) (oi := ?o117) (v := _) (by simp only [List.getElem?_toArray, List.getElem?_cons_zero]; rfl) (by kernel_rfl) (by kernel_rfl) (by kernel_rfl) (fun _ _ _ h => h) (Or.inl ⟨by rfl, ?y117⟩) (by assumption) ?r117
        case y117 =>
          intro wS hSw
          try dsimp only at hSw
          go_simp
          all_goals with_reducible rfl
        simp only [Act.put, List.setIfInBounds_toArray, List.set_cons_zero, List.set_cons_succ]
        refine' wpAnyH_take (i := 1) (oi := ?o118) (v := _) (by simp only [List.getElem?_toArray, List.getElem?_cons_succ, List.getElem?_cons_zero]; rfl) (by kernel_rfl) (by kernel_rfl) (by kernel_rfl) (fun _ _ _ h => h) (Or.inl ⟨by rfl, ?y118⟩) (by assumption) ?r118
        case y118 =>
          intro wS hSw
          try dsimp only at hSw
          go_simp
          all_goals with_reducible rfl
        simp only [Act.put, List.setIfInBounds_toArray, List.set_cons_zero, List.set_cons_succ]
        refine' wpAnyH_take (i := 2) (oi := ?o119) (v := _) (by simp only [List.getElem?_toArray, List.getElem?_cons_succ, List.getElem?_cons_zero]; rfl) (by kernel_rfl) (by kernel_rfl) (by kernel_rfl) (fun _ _ _ h => h) (Or.inl ⟨by rfl, ?y119⟩) (by assumption) ?r119
        case y119 =>
          intro wS hSw
          try dsimp only at hSw
          go_simp
          all_goals with_reducible rfl
        simp only [Act.put, List.setIfInBounds_toArray, List.set_cons_zero, List.set_cons_succ]
        refine' wpAnyH_take (i := 3) (oi := ?o120) (v := _) (by simp only [List.getElem?_toArray, List.getElem?_cons_succ, List.getElem?_cons_zero]; rfl) (by kernel_rfl) (by kernel_rfl) (by kernel_rfl) (fun _ _ _ h => h) (Or.inl ⟨by rfl, ?y120⟩) (by assumption) ?r120
        case y120 =>
          intro wS hSw
          try dsimp only at hSw
          go_simp
          all_goals with_reducible rfl
        simp only [Act.put, List.setIfInBounds_toArray, List.set_cons_zero, List.set_cons_succ]
        refine' wpAnyH_take (i := 4) (oi := ?o121) (v := _) (by simp only [List.getElem?_toArray, List.getElem?_cons_succ, List.getElem?_cons_zero]; rfl) (by kernel_rfl) (by kernel_rfl) (by kernel_rfl) (fun _ _ _ h => h) (Or.inl ⟨by rfl, ?y121⟩) (by assumption) ?r121
        case y121 =>
          intro wS hSw
          try dsimp only at hSw
          go_simp
          all_goals with_reducible rfl
        simp only [Act.put, List.setIfInBounds_toArray, List.set_cons_zero, List.set_cons_succ]
        refine' wpAnyH_take (i := 5) (oi := ?o122) (v := _) (by simp only [List.getElem?_toArray, List.getElem?_cons_succ, List.getElem?_cons_zero]; rfl) (by kernel_rfl) (by kernel_rfl) (by kernel_rfl) (fun _ _ _ h => h) (Or.inl ⟨by rfl, ?y122⟩) (by assumption) ?r122
        case y122 =>
          intro wS hSw
          try dsimp only at hSw
          go_simp
          all_goals with_reducible rfl
        simp only [Act.put, List.setIfInBounds_toArray, List.set_cons_zero, List.set_cons_succ]
        refine wpAnyH_ready (rs := [6, 8]) (by kernel_rfl) (by simp) ?_
        refine' AllReadyH.cons (o := ?o123) (by simp only [List.getElem?_toArray, List.getElem?_cons_succ, List.getElem?_cons_zero]; rfl) (fun K hK => ?s123) ?m123
        rotate_left
        · refine' AllReadyH.cons (o := ?o124) (by simp only [List.getElem?_toArray, List.getElem?_cons_succ, List.getElem?_cons_zero]; rfl) (fun K hK => ?s124) ?m124
          case m124 => exact AllReadyH.nil
          refine step_entryK rfl (.tmp 99) (.tmp 104) 148 rfl 136 3 Tryz.underlying148 keySpot (.int .i64 0) zeroIntV (by rfl) HM4.out (PSpot.mk 1 t2 name) (by rfl) _ (cntK_getD _ (PSpot.mk 1 t2 name)) ?_
          intro w5 s5 q1 q2 q3 q4
          refine hK.out _ _ ?_ (fun hHeld => ?_)
          · exact ⟨(blk_cell (HNBm.out w5 (HD4.out.step q3)) _).trans rfl, ((HOPm.out w5 (HD4.out.step q3)).at).2.2.2.2.2.2.1⟩
          clear hK K
          try simp only [Act.put, List.setIfInBounds_toArray, List.set_cons_zero, List.set_cons_succ]
          refine' wpAnyH_take (i := 9) (oi := ?o125) (v := _) (by simp only [List.getElem?_toArray, List.getElem?_cons_succ, List.getElem?_cons_zero]; rfl) (by kernel_rfl) (by kernel_rfl) (by kernel_rfl) (fun _ _ _ h => h) (Or.inl ⟨by rfl, ?y125⟩) (by assumption) ?r125
          case y125 =>
            intro wS hSw
            try dsimp only at hSw
            go_simp
            all_goals with_reducible rfl
          simp only [Act.put, List.setIfInBounds_toArray, List.set_cons_zero, List.set_cons_succ]
          refine wpAnyH_ready (rs := [6]) (by kernel_rfl) (by simp) ?_
          refine' AllReadyH.cons (o := ?o126) (by simp only [List.getElem?_toArray, List.getElem?_cons_succ, List.getElem?_cons_zero]; rfl) (fun K hK => ?s126) ?m126
          case m126 => exact AllReadyH.nil
          refine step_lookK rfl (.tmp 99) (.tmp 104) 148 rfl 136 3 Tryz.underlying148 keySpot (.int .i64 0) (zeroIntV _) (by rfl) q1 (PSpot.mk 1 t2 name) (by rfl) (.int .i64 ((M).count (PSpot.mk 1 t2 name) : Int)) (by rw [kput_same]; rfl) ?_
          refine hK.out _ _ ?_ (fun hHeld => ?_)
          · exact ⟨(blk_cell (HNBm.out w5 (HD4.out.step q3)) _).trans rfl, ((HOPm.out w5 (HD4.out.step q3)).at).2.2.2.2.2.2.1⟩
          clear hK K
          try simp only [Act.put, List.setIfInBounds_toArray, List.set_cons_zero, List.set_cons_succ]
          refine' wpAnyH_take (i := 7) (oi := ?o127) (v := _) (by simp only [List.getElem?_toArray, List.getElem?_cons_succ, List.getElem?_cons_zero]; rfl) (by kernel_rfl) (by kernel_rfl) (by kernel_rfl) (fun _ _ _ h => h) (Or.inl ⟨by rfl, ?y127⟩) (by assumption) ?r127
          case y127 =>
            intro wS hSw
            try dsimp only at hSw
            go_simp
            all_goals with_reducible rfl
          simp only [Act.put, List.setIfInBounds_toArray, List.set_cons_zero, List.set_cons_succ]
          refine wpAnyH_ready (rs := [10]) (by kernel_rfl) (by simp) ?_
          refine' AllReadyH.cons (o := ?o128) (by simp only [List.getElem?_toArray, List.getElem?_cons_succ, List.getElem?_cons_zero]; rfl) (fun K hK => ?s128) ?m128
          case m128 => exact AllReadyH.nil
          refine step_storeK rfl (.tmp 99) (.tmp 108) (.tmp 106) 148 rfl 136 keySpot (by rfl) q1 (PSpot.mk 1 t2 name) s5 (by rfl) q2 (.int .i64 (((M).count (PSpot.mk 1 t2 name) : Int) + 1)) (by simp [Act.eval, HWR.out]) ?_
          intro w6 p1 p3 p4
          rw [kput_twice, ← kput_twice _ _ (.int .i64 0), cntK_step] at p1
          refine hK.out _ _ ?_ (fun hHeld => ?_)
          · exact ⟨(blk_cell (HNBm.out w6 (HD4.out.step (q3.step p3))) _).trans rfl, ((HOPm.out w6 (HD4.out.step (q3.step p3))).at).2.2.2.2.2.2.1⟩
          clear hK K
          try simp only [Act.put]
          refine wpAnyH_done (by kernel_rfl) ?_ _
          refine NoPanic.normal ?_
          have HM6 := Lib.hid p1
          have HD6 := Lib.hid (HD4.out.step (q3.step p3))
          clear q1 q2 q3 q4 p1 p3 p4
          go_wp2_with fail
          go_meet
          exact ⟨HM6.out, HD6.out⟩
        refine step_lookK rfl (.tmp 99) (.tmp 104) 148 rfl 136 3 Tryz.underlying148 keySpot (.int .i64 0) (zeroIntV _) (by rfl) HM4.out (PSpot.mk 1 t2 name) (by rfl) _ (cntK_getD _ (PSpot.mk 1 t2 name)) ?_
        refine hK.out _ _ ?_ (fun hHeld => ?_)
        · exact ⟨(blk_cell (HNBm.out _ HD4.out) _).trans rfl, ((HOPm.out _ HD4.out).at).2.2.2.2.2.2.1⟩
        clear hK K
        try simp only [Act.put, List.setIfInBounds_toArray, List.set_cons_zero, List.set_cons_succ]
        refine' wpAnyH_take (i := 7) (oi := ?o129) (v := _) (by simp only [List.getElem?_toArray, List.getElem?_cons_succ, List.getElem?_cons_zero]; rfl) (by kernel_rfl) (by kernel_rfl) (by kernel_rfl) (fun _ _ _ h => h) (Or.inl ⟨by rfl, ?y129⟩) (by assumption) ?r129
        case y129 =>
          intro wS hSw
          try dsimp only at hSw
          go_simp
          all_goals with_reducible rfl
        simp only [Act.put, List.setIfInBounds_toArray, List.set_cons_zero, List.set_cons_succ]
        refine wpAnyH_ready (rs := [8]) (by kernel_rfl) (by simp) ?_
        refine' AllReadyH.cons (o := ?o130) (by simp only [List.getElem?_toArray, List.getElem?_cons_succ, List.getElem?_cons_zero]; rfl) (fun K hK => ?s130) ?m130
        case m130 => exact AllReadyH.nil
        refine step_entryK rfl (.tmp 99) (.tmp 104) 148 rfl 136 3 Tryz.underlying148 keySpot (.int .i64 0) zeroIntV (by rfl) HM4.out (PSpot.mk 1 t2 name) (by rfl) _ (cntK_getD _ (PSpot.mk 1 t2 name)) ?_
        intro w5 s5 q1 q2 q3 q4
        refine hK.out _ _ ?_ (fun hHeld => ?_)
        · exact ⟨(blk_cell (HNBm.out w5 (HD4.out.step q3)) _).trans rfl, ((HOPm.out w5 (HD4.out.step q3)).at).2.2.2.2.2.2.1⟩
        clear hK K
        try simp only [Act.put, List.setIfInBounds_toArray, List.set_cons_zero, List.set_cons_succ]
        refine' wpAnyH_take (i := 9) (oi := ?o131) (v := _) (by simp only [List.getElem?_toArray, List.getElem?_cons_succ, List.getElem?_cons_zero]; rfl) (by kernel_rfl) (by kernel_rfl) (by kernel_rfl) (fun _ _ _ h => h) (Or.inl ⟨by rfl, ?y131⟩) (by assumption) ?r131
        case y131 =>
          intro wS hSw
          try dsimp only at hSw
          go_simp
          all_goals with_reducible rfl
        simp only [Act.put, List.setIfInBounds_toArray, List.set_cons_zero, List.set_cons_succ]
        refine wpAnyH_ready (rs := [10]) (by kernel_rfl) (by simp) ?_
        refine' AllReadyH.cons (o := ?o132) (by simp only [List.getElem?_toArray, List.getElem?_cons_succ, List.getElem?_cons_zero]; rfl) (fun K hK => ?s132) ?m132
        case m132 => exact AllReadyH.nil
        refine step_storeK rfl (.tmp 99) (.tmp 108) (.tmp 106) 148 rfl 136 keySpot (by rfl) q1 (PSpot.mk 1 t2 name) s5 (by rfl) q2 (.int .i64 (((M).count (PSpot.mk 1 t2 name) : Int) + 1)) (by simp [Act.eval, HWR.out]) ?_
        intro w6 p1 p3 p4
        rw [kput_twice, ← kput_twice _ _ (.int .i64 0), cntK_step] at p1
        refine hK.out _ _ ?_ (fun hHeld => ?_)
        · exact ⟨(blk_cell (HNBm.out w6 (HD4.out.step (q3.step p3))) _).trans rfl, ((HOPm.out w6 (HD4.out.step (q3.step p3))).at).2.2.2.2.2.2.1⟩
        clear hK K
        try simp only [Act.put]
        refine wpAnyH_done (by kernel_rfl) ?_ _
        refine NoPanic.normal ?_
        have HM6 := Lib.hid p1
        have HD6 := Lib.hid (HD4.out.step (q3.step p3))
        clear q1 q2 q3 q4 p1 p3 p4
        go_wp2_with fail
        go_meet
        exact ⟨HM6.out, HD6.out⟩
      case rest =>
        obtain ⟨hm6, hd6⟩ := hcut
        obtain ⟨w6, rfl⟩ : ∃ w6, w6 = wc := ⟨_, rfl⟩
        have HM6 := Lib.hid hm6; have HD6 := Lib.hid hd6
        clear hm6 hd6
        have HM8 := Lib.hid (HM6.out.grow (show Grow w6 w6.drew from (Grow.rfl' w6).drewd))
        have HD8 := Lib.hid (HD6.out.step (Mod.of_grow (show Grow w6 w6.drew from (Grow.rfl' w6).drewd)))
        have HWR2 := Lib.hid (wrapK (M := M ++ [(PSpot.mk 1 t2 name)]) (y := (PSpot.mk 2 t3 name)) (by have := HML.out; simp; omega))
        obtain ⟨MM, hMM⟩ : ∃ MM, M ++ [(PSpot.mk 1 t2 name)] = MM := ⟨_, rfl⟩
        rw [hMM] at HM8 HWR2
        have HMM := Lib.hid hMM
        clear hMM HM6 HD6
        go_wp2_with fail
        refine wp_region_noPanic ?_
        refine wp_region_held_drew (S := fun w' => w'.cell? ⟨w3.heap.size, 1, none⟩ = some (.string t3) ∧ w'.cell? ⟨w.heap.size, 5, none⟩ = some (.string name)) (by kernel_rfl) ?_ (fun hHeld => ?_)
        · exact ⟨(blk_cell (HEBm.out _ HD8.out) _).trans rfl, ((HOPm.out _ HD8.out).at).2.2.2.2.2.2.1⟩
        refine' wpAnyH_take (i := 0) (oi := ?o133) (v := _) (by simp only [List.getElem?_toArray, List.getElem?_cons_zero]; rfl) (by kernel_rfl) (by kernel_rfl) (by kernel_rfl) (fun _ _ _ h => h) (Or.inl ⟨by rfl, ?y133⟩) (by assumption) ?r133
        case y133 =>
          intro wS hSw
          try dsimp only at hSw
          go_simp
          all_goals with_reducible rfl
        simp only [Act.put, List.setIfInBounds_toArray, List.set_cons_zero, List.set_cons_succ]
        refine' wpAnyH_take (i := 1) (oi := ?o134) (v := _) (by simp only [List.getElem?_toArray, List.getElem?_cons_succ, List.getElem?_cons_zero]; rfl) (by kernel_rfl) (by kernel_rfl) (by kernel_rfl) (fun _ _ _ h => h) (Or.inl ⟨by rfl, ?y134⟩) (by assumption) ?r134
        case y134 =>
          intro wS hSw
          try dsimp only at hSw
          go_simp
          all_goals with_reducible rfl
        simp only [Act.put, List.setIfInBounds_toArray, List.set_cons_zero, List.set_cons_succ]
        refine' wpAnyH_take (i := 2) (oi := ?o135) (v := _) (by simp only [List.getElem?_toArray, List.getElem?_cons_succ, List.getElem?_cons_zero]; rfl) (by kernel_rfl) (by kernel_rfl) (by kernel_rfl) (fun _ _ _ h => h) (Or.inl ⟨by rfl, ?y135⟩) (by assumption) ?r135
        case y135 =>
          intro wS hSw
          try dsimp only at hSw
          go_simp
          all_goals with_reducible rfl
        simp only [Act.put, List.setIfInBounds_toArray, List.set_cons_zero, List.set_cons_succ]
        refine' wpAnyH_take (i := 3) (oi := ?o136) (v := _) (by simp only [List.getElem?_toArray, List.getElem?_cons_succ, List.getElem?_cons_zero]; rfl) (by kernel_rfl) (by kernel_rfl) (by kernel_rfl) (fun _ _ _ h => h) (Or.inl ⟨by rfl, ?y136⟩) (by assumption) ?r136
        case y136 =>
          intro wS hSw
          try dsimp only at hSw
          go_simp
          all_goals with_reducible rfl
        simp only [Act.put, List.setIfInBounds_toArray, List.set_cons_zero, List.set_cons_succ]
        refine' wpAnyH_take (i := 4) (oi := ?o137) (v := _) (by simp only [List.getElem?_toArray, List.getElem?_cons_succ, List.getElem?_cons_zero]; rfl) (by kernel_rfl) (by kernel_rfl) (by kernel_rfl) (fun _ _ _ h => h) (Or.inl ⟨by rfl, ?y137⟩) (by assumption) ?r137
        case y137 =>
          intro wS hSw
          try dsimp only at hSw
          go_simp
          all_goals with_reducible rfl
        simp only [Act.put, List.setIfInBounds_toArray, List.set_cons_zero, List.set_cons_succ]
        refine' wpAnyH_take (i := 5) (oi := ?o138) (v := _) (by simp only [List.getElem?_toArray, List.getElem?_cons_succ, List.getElem?_cons_zero]; rfl) (by kernel_rfl) (by kernel_rfl) (by kernel_rfl) (fun _ _ _ h => h) (Or.inl ⟨by rfl, ?y138⟩) (by assumption) ?r138
        case y138 =>
          intro wS hSw
          try dsimp only at hSw
          go_simp
          all_goals with_reducible rfl
        simp only [Act.put, List.setIfInBounds_toArray, List.set_cons_zero, List.set_cons_succ]
        refine wpAnyH_ready (rs := [6, 8]) (by kernel_rfl) (by simp) ?_
        refine' AllReadyH.cons (o := ?o139) (by simp only [List.getElem?_toArray, List.getElem?_cons_succ, List.getElem?_cons_zero]; rfl) (fun K hK => ?s139) ?m139
        rotate_left
        · refine' AllReadyH.cons (o := ?o140) (by simp only [List.getElem?_toArray, List.getElem?_cons_succ, List.getElem?_cons_zero]; rfl) (fun K hK => ?s140) ?m140
          case m140 => exact AllReadyH.nil
          refine step_entryK rfl (.tmp 110) (.tmp 115) 148 rfl 136 3 Tryz.underlying148 keySpot (.int .i64 0) zeroIntV (by rfl) HM8.out (PSpot.mk 2 t3 name) (by rfl) _ (cntK_getD _ (PSpot.mk 2 t3 name)) ?_
          intro w5 s5 q1 q2 q3 q4
          refine hK.out _ _ ?_ (fun hHeld => ?_)
          · exact ⟨(blk_cell (HEBm.out w5 (HD8.out.step q3)) _).trans rfl, ((HOPm.out w5 (HD8.out.step q3)).at).2.2.2.2.2.2.1⟩
          clear hK K
          try simp only [Act.put, List.setIfInBounds_toArray, List.set_cons_zero, List.set_cons_succ]
          refine' wpAnyH_take (i := 9) (oi := ?o141) (v := _) (by simp only [List.getElem?_toArray, List.getElem?_cons_succ, List.getElem?_cons_zero]; rfl) (by kernel_rfl) (by kernel_rfl) (by kernel_rfl) (fun _ _ _ h => h) (Or.inl ⟨by rfl, ?y141⟩) (by assumption) ?r141
          case y141 =>
            intro wS hSw
            try dsimp only at hSw
            go_simp
            all_goals with_reducible rfl
          simp only [Act.put, List.setIfInBounds_toArray, List.set_cons_zero, List.set_cons_succ]
          refine wpAnyH_ready (rs := [6]) (by kernel_rfl) (by simp) ?_
          refine' AllReadyH.cons (o := ?o142) (by simp only [List.getElem?_toArray, List.getElem?_cons_succ, List.getElem?_cons_zero]; rfl) (fun K hK => ?s142) ?m142
          case m142 => exact AllReadyH.nil
          refine step_lookK rfl (.tmp 110) (.tmp 115) 148 rfl 136 3 Tryz.underlying148 keySpot (.int .i64 0) (zeroIntV _) (by rfl) q1 (PSpot.mk 2 t3 name) (by rfl) (.int .i64 ((MM).count (PSpot.mk 2 t3 name) : Int)) (by rw [kput_same]; rfl) ?_
          refine hK.out _ _ ?_ (fun hHeld => ?_)
          · exact ⟨(blk_cell (HEBm.out w5 (HD8.out.step q3)) _).trans rfl, ((HOPm.out w5 (HD8.out.step q3)).at).2.2.2.2.2.2.1⟩
          clear hK K
          try simp only [Act.put, List.setIfInBounds_toArray, List.set_cons_zero, List.set_cons_succ]
          refine' wpAnyH_take (i := 7) (oi := ?o143) (v := _) (by simp only [List.getElem?_toArray, List.getElem?_cons_succ, List.getElem?_cons_zero]; rfl) (by kernel_rfl) (by kernel_rfl) (by kernel_rfl) (fun _ _ _ h => h) (Or.inl ⟨by rfl, ?y143⟩) (by assumption) ?r143
          case y143 =>
            intro wS hSw
            try dsimp only at hSw
            go_simp
            all_goals with_reducible rfl
          simp only [Act.put, List.setIfInBounds_toArray, List.set_cons_zero, List.set_cons_succ]
          refine wpAnyH_ready (rs := [10]) (by kernel_rfl) (by simp) ?_
          refine' AllReadyH.cons (o := ?o144) (by simp only [List.getElem?_toArray, List.getElem?_cons_succ, List.getElem?_cons_zero]; rfl) (fun K hK => ?s144) ?m144
          case m144 => exact AllReadyH.nil
          refine step_storeK rfl (.tmp 110) (.tmp 119) (.tmp 117) 148 rfl 136 keySpot (by rfl) q1 (PSpot.mk 2 t3 name) s5 (by rfl) q2 (.int .i64 (((MM).count (PSpot.mk 2 t3 name) : Int) + 1)) (by simp [Act.eval, HWR2.out]) ?_
          intro w6 p1 p3 p4
          rw [kput_twice, ← kput_twice _ _ (.int .i64 0), cntK_step] at p1
          refine hK.out _ _ ?_ (fun hHeld => ?_)
          · exact ⟨(blk_cell (HEBm.out w6 (HD8.out.step (q3.step p3))) _).trans rfl, ((HOPm.out w6 (HD8.out.step (q3.step p3))).at).2.2.2.2.2.2.1⟩
          clear hK K
          try simp only [Act.put]
          refine wpAnyH_done (by kernel_rfl) ?_ _
          refine NoPanic.normal ?_
          have HM9 := Lib.hid p1
          have HD9 := Lib.hid ((Mod.of_grow HG4.out).step (HD8.out.step (q3.step p3)))
          clear q1 q2 q3 q4 p1 p3 p4
          go_wp2
          go_end0
          exact ⟨rfl, by rw [noteG_5 HN.out HE.out]; simp only [if_true, ← List.append_assoc]; rw [HMM.out]; exact HM9.out.mono (by omega), HD9.out⟩
        refine step_lookK rfl (.tmp 110) (.tmp 115) 148 rfl 136 3 Tryz.underlying148 keySpot (.int .i64 0) (zeroIntV _) (by rfl) HM8.out (PSpot.mk 2 t3 name) (by rfl) _ (cntK_getD _ (PSpot.mk 2 t3 name)) ?_
        refine hK.out _ _ ?_ (fun hHeld => ?_)
        · exact ⟨(blk_cell (HEBm.out _ HD8.out) _).trans rfl, ((HOPm.out _ HD8.out).at).2.2.2.2.2.2.1⟩
        clear hK K
        try simp only [Act.put, List.setIfInBounds_toArray, List.set_cons_zero, List.set_cons_succ]
        refine' wpAnyH_take (i := 7) (oi := ?o145) (v := _) (by simp only [List.getElem?_toArray, List.getElem?_cons_succ, List.getElem?_cons_zero]; rfl) (by kernel_rfl) (by kernel_rfl) (by kernel_rfl) (fun _ _ _ h => h) (Or.inl ⟨by rfl, ?y145⟩) (by assumption) ?r145
        case y145 =>
          intro wS hSw
          try dsimp only at hSw
          go_simp
          all_goals with_reducible rfl
        simp only [Act.put, List.setIfInBounds_toArray, List.set_cons_zero, List.set_cons_succ]
        refine wpAnyH_ready (rs := [8]) (by kernel_rfl) (by simp) ?_
        refine' AllReadyH.cons (o := ?o146) (by simp only [List.getElem?_toArray, List.getElem?_cons_succ, List.getElem?_cons_zero]; rfl) (fun K hK => ?s146) ?m146
        case m146 => exact AllReadyH.nil
        refine step_entryK rfl (.tmp 110) (.tmp 115) 148 rfl 136 3 Tryz.underlying148 keySpot (.int .i64 0) zeroIntV (by rfl) HM8.out (PSpot.mk 2 t3 name) (by rfl) _ (cntK_getD _ (PSpot.mk 2 t3 name)) ?_
        intro w5 s5 q1 q2 q3 q4
        refine hK.out _ _ ?_ (fun hHeld => ?_)
        · exact ⟨(blk_cell (HEBm.out w5 (HD8.out.step q3)) _).trans rfl, ((HOPm.out w5 (HD8.out.step q3)).at).2.2.2.2.2.2.1⟩
        clear hK K
        try simp only [Act.put, List.setIfInBounds_toArray, List.set_cons_zero, List.set_cons_succ]
        refine' wpAnyH_take (i := 9) (oi := ?o147) (v := _) (by simp only [List.getElem?_toArray, List.getElem?_cons_succ, List.getElem?_cons_zero]; rfl) (by kernel_rfl) (by kernel_rfl) (by kernel_rfl) (fun _ _ _ h => h) (Or.inl ⟨by rfl, ?y147⟩) (by assumption) ?r147
        case y147 =>
          intro wS hSw
          try dsimp only at hSw
          go_simp
          all_goals with_reducible rfl
        simp only [Act.put, List.setIfInBounds_toArray, List.set_cons_zero, List.set_cons_succ]
        refine wpAnyH_ready (rs := [10]) (by kernel_rfl) (by simp) ?_
        refine' AllReadyH.cons (o := ?o148) (by simp only [List.getElem?_toArray, List.getElem?_cons_succ, List.getElem?_cons_zero]; rfl) (fun K hK => ?s148) ?m148
        case m148 => exact AllReadyH.nil
        refine step_storeK rfl (.tmp 110) (.tmp 119) (.tmp 117) 148 rfl 136 keySpot (by rfl) q1 (PSpot.mk 2 t3 name) s5 (by rfl) q2 (.int .i64 (((MM).count (PSpot.mk 2 t3 name) : Int) + 1)) (by simp [Act.eval, HWR2.out]) ?_
        intro w6 p1 p3 p4
        rw [kput_twice, ← kput_twice _ _ (.int .i64 0), cntK_step] at p1
        refine hK.out _ _ ?_ (fun hHeld => ?_)
        · exact ⟨(blk_cell (HEBm.out w6 (HD8.out.step (q3.step p3))) _).trans rfl, ((HOPm.out w6 (HD8.out.step (q3.step p3))).at).2.2.2.2.2.2.1⟩
        clear hK K
        try simp only [Act.put]
        refine wpAnyH_done (by kernel_rfl) ?_ _
        refine NoPanic.normal ?_
        have HM9 := Lib.hid p1
        have HD9 := Lib.hid ((Mod.of_grow HG4.out).step (HD8.out.step (q3.step p3)))
        clear q1 q2 q3 q4 p1 p3 p4
        go_wp2
        go_end0
        exact ⟨rfl, by rw [noteG_5 HN.out HE.out]; simp only [if_true, ← List.append_assoc]; rw [HMM.out]; exact HM9.out.mono (by omega), HD9.out⟩

theorem dirtyNote (S : Nat → Prop) (Bm B n : Nat) (M : List PSpot) (G : PGraph) (c : PCat) (o : POp) (w : World) (h : GraphOk 120 S w B G) (hG : GInv G) (hm : mayG c o G = 0) (hmk : MapK PSpot.args w Bm (cntK M) n) (hM : M.length ≤ 100000) (hS : ¬ S Bm) :
    Calls Tryz.prog 86 #[.map (some Bm), .pointer (some ⟨B, 0, none⟩), o.args] w (NoteP Bm n M G o w) := by
  rcases may_kind hm with hk | hk | hk | hk | hk
  · exact note1 S Bm B n M G c o w h hG hm hmk hM hS hk
  · exact note2 S Bm B n M G c o w h hG hm hmk hM hS hk
  · exact note3 S Bm B n M G c o w h hG hm hmk hM hS hk
  · exact note4 S Bm B n M G c o w h hG hm hmk hM hS hk
  · exact note5 S Bm B n M G c o w h hG hm hmk hM hS hk
end Go.Hg

namespace Go.Hg

theorem edgesG_step (c : PCat) (o : POp) (G : PGraph) : (stepG c o G).edges.length ≤ G.edges.length + 1 := by
  unfold stepG
  split
  · unfold doG
    split
    · unfold addNodeG; simp
    · split
      · unfold dropNodeG; exact Nat.le_succ_of_le (List.length_filter_le _ _)
      · split
        · unfold addEdgeG; simp
        · split
          · unfold dropEdgeG; exact Nat.le_succ_of_le (List.length_filter_le _ _)
          · split
            · unfold setPropG; split <;> simp
            · simp
  · simp
theorem runG_edges (G : PGraph) (l : List POp) : (runG G l).edges.length ≤ G.edges.length + l.length := by
  induction l generalizing G with
  | nil => simp [runG]
  | cons o t ih =>
    have h1 := ih (stepG (catO o) o G)
    have h2 := edgesG_step (catO o) o G
    show (runG (stepG (catO o) o G) t).edges.length ≤ _
    simp only [List.length_cons]
    omega
theorem runG_inv {G : PGraph} (h : GInv G) (l : List POp) : GInv (runG G l) := by
  induction l generalizing G with
  | nil => exact h
  | cons o t ih => exact ih h.stepG
theorem noteG_len (G : PGraph) (o : POp) : (noteG G o).length ≤ G.edges.length + 2 := by
  unfold noteG
  split
  · simp
  · split
    · simp
    · split
      · have h := List.length_filter_le (fun e : PEdge => atE e o.id) G.edges
        rw [List.length_append, List.length_map]
        split <;> simp <;> omega
      · split
        · split <;> simp
        · split
          · rw [List.length_append]
            split <;> split <;> simp
          · simp
theorem spotsG_len (G : PGraph) (l : List POp) (h : G.edges.length + l.length ≤ 260) : (spotsG G l).length ≤ l.length * 262 := by
  induction l generalizing G with
  | nil => simp [spotsG]
  | cons o t ih =>
    have h1 := edgesG_step (catO o) o G
    have h2 := ih (stepG (catO o) o G) (by simp only [List.length_cons] at h; omega)
    have h3 := noteG_len G o
    show ((if _ then _ else _) ++ spotsG _ t).length ≤ _
    rw [List.length_append]
    simp only [List.length_cons] at h ⊢
    split
    · omega
    · simp only [List.length_nil]; omega
theorem spotsG_snoc (G : PGraph) (l : List POp) (o : POp) : spotsG G (l ++ [o]) = spotsG G l ++ (if mayG (catO o) o (runG G l) = 0 then noteG (runG G l) o else []) := by
  rw [spotsG_append]
  show _ ++ ((if _ then _ else _) ++ []) = _
  rw [List.append_nil]
theorem cntK_mem {κ : Type} [DecidableEq κ] (M : List κ) (k : κ) : cntK M k ≠ none ↔ k ∈ M := by
  unfold cntK
  by_cases hc : M.count k = 0
  · rw [if_pos hc]
    exact ⟨fun h => absurd rfl h, fun h => absurd (List.count_pos_iff.2 h) (by omega)⟩
  · rw [if_neg hc]
    exact ⟨fun _ => List.count_pos_iff.1 (by omega), fun _ => by simp⟩
end Go.Hg

namespace Go.Hg
open Go.RowKit Go.Proofs

theorem RNode.cut {S : Nat → Prop} {w : World} {x : PNode} {r : List Value} (h : RNode S w x r) : RNode (fun b => S b ∧ b < w.heap.size) w x r := by
  obtain ⟨pv, hr, hp⟩ := h; exact ⟨pv, hr, hp.cut⟩
theorem REdge.cut {S : Nat → Prop} {w : World} {x : PEdge} {r : List Value} (h : REdge S w x r) : REdge (fun b => S b ∧ b < w.heap.size) w x r := by
  obtain ⟨pv, hr, hp⟩ := h; exact ⟨pv, hr, hp.cut⟩
theorem graph_close {T : TypeId} {w2 w3 w4 w5 : World} {B : Nat} {nv ev : Value} {nodes : List PNode} {edges : List PEdge} {next : Int} {on oe : Option Nat} (g23 : Grow w2 w3) (g34 : Grow w3 w4)
    (hn : OwnL w3 94 3 (RNode (fun b => w2.heap.size ≤ b ∧ on ≠ some b) w3) nv nodes on) (hon : ∀ g, on = some g → w2.heap.size ≤ g)
    (he : OwnL w4 98 5 (REdge (fun b => w3.heap.size ≤ b ∧ oe ≠ some b) w4) ev edges oe) (hoe : ∀ g, oe = some g → w3.heap.size ≤ g)
    (m : Mod (fun b => b = B) w4 w5) (hb : w5.heap[B]? = some (.cells #[nv, ev, .int .i64 next] T (0, 0))) (hB : B < w2.heap.size ∨ w4.heap.size ≤ B) :
    GraphOk T (fun b => b = B ∨ w2.heap.size ≤ b) w5 B ⟨nodes, edges, next⟩ := by
  have hs1 := g23.size
  have hs2 := g34.size
  have hs3 := m.size
  have hnl := hn.lt
  have hel := he.lt
  have hBn : ∀ b, w2.heap.size ≤ b → b < w4.heap.size → b ≠ B := fun b h1 h2 e => by omega
  refine ⟨nv, ev, fun b => (w2.heap.size ≤ b ∧ on ≠ some b ∧ b < w3.heap.size) ∨ (w3.heap.size ≤ b ∧ oe ≠ some b ∧ b < w4.heap.size), on, oe, hb, .inl rfl, ?_, ?_, ?_, ?_, ?_, ?_⟩
  · intro h
    rcases h with h | h <;> omega
  · intro b h
    rcases h with h | h
    · exact ⟨.inr h.1, by omega⟩
    · exact ⟨.inr (by omega), by omega⟩
  · intro g hg
    refine ⟨.inr (hon g hg), fun h => ?_⟩
    rcases h with h | h
    · exact h.2.1 hg
    · have := hnl g hg; omega
  · intro g hg
    refine ⟨.inr (by have := hoe g hg; omega), fun h => ?_⟩
    rcases h with h | h
    · have := hoe g hg; omega
    · exact h.2.1 hg
  · have h1 := hn.keep (R' := RNode (fun b => (w2.heap.size ≤ b ∧ on ≠ some b) ∧ b < w3.heap.size) w3) (w' := w3) (fun _ _ => rfl) (fun x r _ h => h.cut)
    have m35 : Mod (fun b => b = B) w3 w5 := (Mod.of_grow g34).step m
    refine h1.keep (fun g hg => m35.block g (hnl g hg) (hBn g (hon g hg) (by have := hnl g hg; omega))) (fun x r _ h => (h.mod m35 (fun b hb => hBn b hb.1.1 (by omega))).sub (fun b hb => .inl ⟨hb.1.1, hb.1.2, hb.2⟩))
  · have h1 := he.keep (R' := REdge (fun b => (w3.heap.size ≤ b ∧ oe ≠ some b) ∧ b < w4.heap.size) w4) (w' := w4) (fun _ _ => rfl) (fun x r _ h => h.cut)
    refine h1.keep (fun g hg => m.block g (hel g hg) (hBn g (by have := hoe g hg; omega) (hel g hg))) (fun x r _ h => (h.mod m (fun b hb => hBn b (by have := hb.1.1; omega) hb.2)).sub (fun b hb => .inr ⟨hb.1.1, hb.1.2, hb.2⟩))

end Go.Hg

namespace Go.Hg
open Go.RowKit Go.Proofs

def CopyPost (T : TypeId) (G : PGraph) (w : World) (e : Ending) (w' : World) : Prop := ∃ B, e = .returned (.pointer (some ⟨B, 0, none⟩)) ∧ GraphOk T (fun b => w.heap.size ≤ b) w' B G ∧ Grow w w'

set_option maxRecDepth 100000 in
set_option maxHeartbeats 2000000 in
theorem graphCopy (S : Nat → Prop) (B : Nat) (G : PGraph) (w : World) (h : GraphRd 120 S w B G) (hn40 : G.nodes.length ≤ 1099511627776) (he40 : G.edges.length ≤ 1099511627776)
    (hpn : ∀ x ∈ G.nodes, x.props.length ≤ 1099511627776) (hpe : ∀ x ∈ G.edges, x.props.length ≤ 1099511627776) :
    Calls Tryz.prog 85 #[.pointer (some ⟨B, 0, none⟩)] w (CopyPost 120 G w) := by
  have HGR := Lib.hid h; have HN40 := Lib.hid hn40; have HE40 := Lib.hid he40; have HPN := Lib.hid hpn; have HPE := Lib.hid hpe
  obtain ⟨na, nc, ea, ec, hB, g0, g1, g2, -, -⟩ := h.read
  have HD := Lib.hid (show Grow w w.drew from (Grow.rfl' w).drewd)
  have HS := Lib.hid (show ∀ w', Grow w w' → w'.cell? ⟨B, 2, none⟩ = some (.int .i64 G.next) from fun w' hg => (hg.cell (p := ⟨B, 2, none⟩) hB).trans g2)
  clear h hn40 he40 hpn hpe
  go_enter Tryz.func85, Tryz.ntmps85
  go_wp2_with fail
  go_region_held3 (fun w' => w'.cell? ⟨B, 2, none⟩ = some (.int .i64 G.next)) (first | exact HS.out _ HD.out | exact HS.out _ (HD.out.step hg3) | exact HS.out _ ((HD.out.step HG3.out).step hg4) | exact HS.out _ (((HD.out.step HG3.out).step HG4.out).allocd _)) (first | (go_at_call 20; refine (graphNodes S _ G _ (HGR.out.grow HD.out) HN40.out HPN.out).mono ?_; rintro e w3 ⟨v3, on, rfl, hon, hon2, hg3⟩; have HON := Lib.hid hon; have HON2 := Lib.hid hon2; have HG3 := Lib.hid hg3; obtain ⟨a3, c3, rfl⟩ : ∃ a c, v3 = .slice a G.nodes.length c := (by obtain ⟨_, _, _, h⟩ := hon; obtain ⟨oa, cap, h, _⟩ := h.isSlice; exact ⟨oa, cap, h⟩); clear hon hon2) | (go_at_call 21; refine (graphEdges S _ G _ (HGR.out.grow (HD.out.step HG3.out)) HE40.out HPE.out).mono ?_; rintro e w4 ⟨v4, oe, rfl, hoe, hoe2, hg4⟩; have HOE := Lib.hid hoe; have HOE2 := Lib.hid hoe2; have HG4 := Lib.hid hg4; obtain ⟨a4, c4, rfl⟩ : ∃ a c, v4 = .slice a G.edges.length c := (by obtain ⟨_, _, _, h⟩ := hoe; obtain ⟨oa, cap, h, _⟩ := h.isSlice; exact ⟨oa, cap, h⟩); clear hoe hoe2))
  go_wp2
  go_ret
  have g14 : Grow w w4 := (HD.out.step HG3.out).step HG4.out
  have m5 : Mod (fun b => b = w4.heap.size) w4 (w4.alloc (.cells #[.slice a3 G.nodes.length c3, .slice a4 G.edges.length c4, .int .i64 G.next] 120)) := Mod.of_grow ((Grow.rfl' w4).allocd _)
  have hcl := graph_close (T := 120) HG3.out HG4.out HON.out HON2.out HOE.out HOE2.out m5 (heap_alloc_new w4 _) (.inr (Nat.le_refl _))
  refine ⟨w4.heap.size, rfl, hcl.sub (fun b hb => ?_), g14.allocd _⟩
  rcases hb with rfl | hb
  · exact g14.size
  · exact Nat.le_trans HD.out.size hb
end Go.Hg

namespace Go.Hg
open Go.RowKit Go.Proofs

def toldR (sp : List PSpot) (l : List PRule) : List Int := (l.filter fun r => decide (r.state = 2) && touchR sp r).map (·.id)
theorem toldR_snoc (sp : List PSpot) (l : List PRule) (r : PRule) : toldR sp (l ++ [r]) = if (decide (r.state = 2) && touchR sp r) = true then toldR sp l ++ [r.id] else toldR sp l := by
  unfold toldR
  rw [List.filter_append]
  by_cases h : (decide (r.state = 2) && touchR sp r) = true
  · rw [if_pos h]; simp only [List.filter_cons, if_pos h, List.filter_nil, List.map_append, List.map_cons, List.map_nil]
  · rw [if_neg h]; simp only [List.filter_cons, if_neg h, List.filter_nil, List.append_nil]
theorem toldR_len (sp : List PSpot) (l : List PRule) : (toldR sp l).length ≤ l.length := by
  unfold toldR
  rw [List.length_map]
  exact List.length_filter_le _ _
abbrev spotBox (k : Int) (t n : ByteArray) : Obj := .cells #[.int .i64 k, .string t, .string n] 136 (0, 0)
theorem two4 (W : World) (o1 o2 : Obj) : ((W.alloc o1).alloc o2).drew.heap[W.heap.size]? = some o1 ∧ ((W.alloc o1).alloc o2).drew.heap[W.heap.size + 1]? = some o2 ∧ Grow W ((W.alloc o1).alloc o2).drew := by
  have h2 := heap_alloc_new (W.alloc o1) o2
  rw [World.size_alloc] at h2
  exact ⟨(((Grow.rfl' (W.alloc o1)).allocd o2).heapEq (by simp)).trans (heap_alloc_new W o1), h2, (((Grow.rfl' W).allocd o1).allocd o2).drewd⟩

set_option maxRecDepth 100000 in
set_option maxHeartbeats 8000000 in
theorem dirtyConcerned (S S2 : Nat → Prop) (nv ev rv iv nx lv : Value) (l : List PRule) (sp : List PSpot) (w : World) (hl : SlR S w 8 RRule rv l) (hs : SpotsR S2 w lv sp) (hb : l.length ≤ 4096) (hwf : ∀ r ∈ l, (Lit.int .i64 r.id).wf = true)
    (hv : (∃ a n c, nv = .slice a n c) ∧ (∃ a n c, ev = .slice a n c) ∧ (∃ a n c, iv = .slice a n c) ∧ ∃ n, nx = .int .i64 n) :
    Calls Tryz.prog 39 #[.agg #[nv, ev, rv, iv, nx], lv] w fun e w' => ∃ v L, e = .returned v ∧ RSet L (· ∈ toldR sp l) ∧ IdsR (fun b => w.heap.size ≤ b) w' v L ∧ Grow w w' := by
  obtain ⟨⟨an, nn, cn, rfl⟩, ⟨ae, ne, ce, rfl⟩, ⟨ai, ni, ci, rfl⟩, ⟨xn, rfl⟩⟩ := hv
  have HS := Lib.hid hs; have HBD := Lib.hid hb; have HWF := Lib.hid hwf
  obtain ⟨al, cl, rfl, hll, hlc, hL⟩ := SlR.open hl
  obtain ⟨_, _, rfl, _⟩ := SlR.open hs
  unfold maxLen at hlc
  have HL := Lib.hid hL
  have HG := Lib.hid (show ∀ o1 o2, Grow w ((w.alloc o1).alloc o2) from fun o1 o2 => ((Grow.rfl' w).allocd o1).allocd o2)
  have HM0 := Lib.hid (show ∀ o1, MapK (fun k : Int => .int .i64 k) ((w.alloc o1).alloc (.map #[] 0)) (w.heap.size + 1) (cntK ([] : List Int)) 0 from fun o1 => by
    have h := MapK.made (kv := fun k : Int => .int .i64 k) (w.alloc o1)
    rw [World.size_alloc] at h
    exact h)
  clear hs hl hb hL hwf
  have hmm := @run_makeMap Tryz.prog
  go_enter Tryz.func39, Tryz.ntmps39
  go_wp2
  clear hmm
  obtain ⟨W1, hW1⟩ : ∃ W1, (w.alloc (.cells #[.slice an nn cn, .slice ae ne ce, .slice al l.length cl, .slice ai ni ci, .int .i64 xn] 52)).alloc (.map #[] 0) = W1 := ⟨_, rfl⟩
  have HG1 := Lib.hid (show Grow w W1 from hW1 ▸ HG.out _ _)
  have HM1 := Lib.hid (show MapK (fun k : Int => .int .i64 k) W1 (w.heap.size + 1) (cntK ([] : List Int)) 0 from hW1 ▸ HM0.out _)
  have hsz1 : w.heap.size + 1 < W1.heap.size := HM1.out.lt
  rw [hW1]
  clear hW1 HM0 HG
  go_loopg [15] l.length (fun g kv wr => ∃ k : Nat, k ≤ l.length ∧ g = l.length - k ∧ kv = .int .i64 k ∧ MapK (fun k : Int => .int .i64 k) wr (w.heap.size + 1) (cntK (toldR sp (l.take k))) k ∧ Mod (fun q => q = w.heap.size + 1) W1 wr)
  case atStart => exact ⟨0, by omega, by omega, rfl, HM1.out, Mod.rfl' _ W1⟩
  case round =>
    obtain ⟨k, hk, rfl, rfl, hm, hg⟩ := hrel
    have HM := Lib.hid hm; have HGR := Lib.hid hg
    have HGW := Lib.hid (show Grow w wr from HG1.out.modd hg (fun q hq => by rw [hq]; omega))
    have hml := hm.lt
    clear hm hg
    by_cases hkl : k < l.length
    · obtain ⟨ba, oa', ra, rfl, hSa, hba, hRa, hca⟩ := HL.out k l[k] (List.getElem?_eq_getElem hkl)
      have HX := Lib.hid (show ∀ w', Grow w w' → _ from fun w' g => ruleAt hRa hba g hca)
      have HT := Lib.hid (show l.take (k + 1) = l.take k ++ [l[k]] from List.take_succ_eq_append_getElem hkl)
      clear hca hRa hSa hba
      generalize l[k] = r at *
      have HTS := Lib.hid (toldR_snoc sp (l.take k) r)
      have HTL := Lib.hid (show (toldR sp (l.take k)).length ≤ k from Nat.le_trans (toldR_len _ _) (by rw [List.length_take]; omega))
      obtain ⟨hal, c0, c1, c2, c3, c4, c5, c6, c7⟩ := HX.out wr HGW.out
      obtain ⟨bs, hbs⟩ : ∃ b, (r.state == 2) = b := ⟨_, rfl⟩
      have HBS := Lib.hid (show decide (r.state = 2) = bs by rw [← hbs, int_beq])
      obtain ⟨bt, hbt⟩ : ∃ b, touchR sp r = b := ⟨_, rfl⟩
      have HBT := Lib.hid hbt
      have HW := Lib.hid (show ∀ o1, Grow wr (wr.alloc o1) from fun o1 => (Grow.rfl' wr).allocd o1)
      have HRB := Lib.hid (fun w' => ruleBoxNew wr r w')
      have HSTAY := Lib.hid (show ∀ w4, Grow wr w4 → MapK (fun k : Int => .int .i64 k) w4 (w.heap.size + 1) (cntK (toldR sp (l.take k))) (k + 1) ∧ Mod (fun q => q = w.heap.size + 1) W1 w4 from fun w4 h => ⟨(HM.out.grow h).mono (by omega), HGR.out.step (Mod.of_grow h)⟩)
      clear hbt
      cases bs
      · have hbn : (r.state != 2) = true := by unfold bne; rw [hbs]; rfl
        go_wp2_with fail
        go_roundg (l.length - (k + 1))
        case measure => omega
        case rel => exact ⟨k + 1, by omega, rfl, by go_num, by rw [HT.out, HTS.out, HBS.out, if_neg (by simp)]; exact (HSTAY.out _ (HW.out _)).1, (HSTAY.out _ (HW.out _)).2⟩
      · have hbn : (r.state != 2) = false := by unfold bne; rw [hbs]; rfl
        go_upto_region 7 with fail
        obtain ⟨w4, hw4⟩ : ∃ w4, wr.alloc (.cells #[.int .i64 r.id, .int .i64 r.kind, .string r.typ, .string r.name, .string r.from_, .string r.to_, .int .i64 r.n, .int .i64 r.state] 24) = w4 := ⟨_, rfl⟩
        have HG4 := Lib.hid (show Grow wr w4 from hw4 ▸ HW.out _)
        have HR4 := Lib.hid (show ∀ w', Grow w4 w' → RuleBox w' wr.heap.size r from fun w' g => HRB.out w' (hw4 ▸ g))
        rw [hw4]
        clear hw4 c0 c1 c2 c3 c4 c5 c6 c7 hal
        obtain ⟨hrl, c1, c2, c3, c4, c5, c6, c7, c0⟩ := (HR4.out w4 (Grow.rfl' _)).cells
        go_cut [9, 10] (fun s t wx => ∃ B9 B10 : Nat, s = .pointer (some ⟨B9, 0, none⟩) ∧ t = .pointer (some ⟨B10, 0, none⟩) ∧ wx.heap[B9]? = some (spotBox 1 r.typ r.name) ∧ wx.heap[B10]? = some (spotBox 1 r.typ ByteArray.empty) ∧ Grow w4 wx)
        case first =>
          go_region
          · go_wp2_with fail
            go_meet
            exact ⟨w4.heap.size, w4.heap.size + 1, rfl, rfl, (two4 w4 _ _).1, (two4 w4 _ _).2.1, (two4 w4 _ _).2.2⟩
          · go_wp2_with fail
            go_meet
            exact ⟨w4.heap.size + 1, w4.heap.size, rfl, rfl, (two4 w4 _ _).2.1, (two4 w4 _ _).1, (two4 w4 _ _).2.2⟩
        case rest =>
          obtain ⟨B9, B10, rfl, rfl, h9, h10, hg6⟩ := hcut
          obtain ⟨w6, rfl⟩ : ∃ w6, w6 = wc := ⟨_, rfl⟩
          have H9 := Lib.hid h9; have H10 := Lib.hid h10; have HG6 := Lib.hid hg6
          have hbl9 := blk_lt h9
          have y0 : w6.cell? ⟨B9, 0, none⟩ = some (.int .i64 1) := (blk_cell h9 _).trans rfl
          have y1 : w6.cell? ⟨B9, 1, none⟩ = some (.string r.typ) := (blk_cell h9 _).trans rfl
          have y2 : w6.cell? ⟨B9, 2, none⟩ = some (.string r.name) := (blk_cell h9 _).trans rfl
          have HR6 := Lib.hid (HR4.out w6 hg6)
          clear h9 h10 hg6 hrl c1 c2 c3 c4 c5 c6 c7 c0
          obtain ⟨hrl, c1, c2, c3, c4, c5, c6, c7, c0⟩ := HR6.out.cells
          clear c3 c4 c5 c6 c7 c0
          go_upto_block 2 with fail
          go_cut [8] (fun s wx => s = .bool bt ∧ Grow w6 wx)
          case first =>
            have HG6o := HG6
            replace HG6 := Lib.hid (Grow.rfl' w6)
            by_cases h1 : r.kind = 1
            · have k1 : (r.kind == 1) = true := by rw [int_beq]; exact decide_eq_true h1
              have HT1 := Lib.hid (show decide (PSpot.mk 1 r.typ r.name ∈ sp) = bt by rw [← HBT.out]; unfold touchR; rw [if_pos h1])
              clear h1
              go_wp2_with fail
              refine (dirtyAmongB (HS.out.grow (HGW.out.step (HG4.out.step (HG6o.out.step HG6.out)))) HT1.out).mono ?_
              rintro e w7 ⟨rfl, g7⟩
              have HG7 := Lib.hid (HG6.out.step g7)
              clear g7
              go_wp2_with fail
              go_meet
              exact ⟨rfl, HG7.out⟩
            by_cases h2 : r.kind = 2
            · have k1 : (r.kind == 1) = false := by rw [int_beq]; exact decide_eq_false h1
              have k2 : (r.kind == 2) = true := by rw [int_beq]; exact decide_eq_true h2
              obtain ⟨ba1, hba1⟩ : ∃ b, decide (PSpot.mk 1 r.typ r.name ∈ sp) = b := ⟨_, rfl⟩
              obtain ⟨ba2, hba2⟩ : ∃ b, decide (PSpot.mk 1 r.typ ByteArray.empty ∈ sp) = b := ⟨_, rfl⟩
              have HA1 := Lib.hid hba1; have HA2 := Lib.hid hba2
              have HT1 := Lib.hid (show (ba1 || ba2) = bt by rw [← HBT.out]; unfold touchR; rw [if_neg h1, if_pos h2, hba1, hba2])
              clear h1 h2 hba1 hba2
              go_wp2_with fail
              refine (dirtyAmongB (HS.out.grow (HGW.out.step (HG4.out.step (HG6o.out.step HG6.out)))) HA1.out).mono ?_
              rintro e w7 ⟨rfl, g7⟩
              have HG7 := Lib.hid (HG6.out.step g7)
              have h10 := (g7.heapEq (blk_lt H10.out)).trans H10.out
              have hbl := blk_lt h10
              have z0 : w7.cell? ⟨B10, 0, none⟩ = some (.int .i64 1) := (blk_cell h10 _).trans rfl
              have z1 : w7.cell? ⟨B10, 1, none⟩ = some (.string r.typ) := (blk_cell h10 _).trans rfl
              have z2 : w7.cell? ⟨B10, 2, none⟩ = some (.string ByteArray.empty) := (blk_cell h10 _).trans rfl
              clear g7 h10
              cases ba1
              · go_wp2_with fail
                refine (dirtyAmongB (HS.out.grow (HGW.out.step (HG4.out.step (HG6o.out.step HG7.out)))) HA2.out).mono ?_
                rintro e w8 ⟨rfl, g8⟩
                have HG8 := Lib.hid (HG7.out.step g8)
                clear g8
                go_wp2_with fail
                go_meet
                exact ⟨by rw [← HT1.out]; rfl, HG8.out⟩
              · go_wp2_with fail
                go_meet
                exact ⟨by rw [← HT1.out]; rfl, HG7.out⟩
            by_cases h3 : r.kind = 3
            · have k1 : (r.kind == 1) = false := by rw [int_beq]; exact decide_eq_false h1
              have k2 : (r.kind == 2) = false := by rw [int_beq]; exact decide_eq_false h2
              have k3 : (r.kind == 3) = true := by rw [int_beq]; exact decide_eq_true h3
              have HT1 := Lib.hid (show decide (PSpot.mk 2 r.typ ByteArray.empty ∈ sp) = bt by rw [← HBT.out]; unfold touchR; rw [if_neg h1, if_neg h2, if_pos (.inl h3)])
              clear h1 h2 h3
              go_wp2_with fail
              refine (dirtyAmongB (HS.out.grow (HGW.out.step (HG4.out.step (HG6o.out.step HG6.out)))) HT1.out).mono ?_
              rintro e w7 ⟨rfl, g7⟩
              have HG7 := Lib.hid (HG6.out.step g7)
              clear g7
              go_wp2_with fail
              go_meet
              exact ⟨rfl, HG7.out⟩
            by_cases h4 : r.kind = 4
            · have k1 : (r.kind == 1) = false := by rw [int_beq]; exact decide_eq_false h1
              have k2 : (r.kind == 2) = false := by rw [int_beq]; exact decide_eq_false h2
              have k3 : (r.kind == 3) = false := by rw [int_beq]; exact decide_eq_false h3
              have k4 : (r.kind == 4) = true := by rw [int_beq]; exact decide_eq_true h4
              have HT1 := Lib.hid (show decide (PSpot.mk 2 r.typ ByteArray.empty ∈ sp) = bt by rw [← HBT.out]; unfold touchR; rw [if_neg h1, if_neg h2, if_pos (.inr h4)])
              clear h1 h2 h3 h4
              go_wp2_with fail
              refine (dirtyAmongB (HS.out.grow (HGW.out.step (HG4.out.step (HG6o.out.step HG6.out)))) HT1.out).mono ?_
              rintro e w7 ⟨rfl, g7⟩
              have HG7 := Lib.hid (HG6.out.step g7)
              clear g7
              go_wp2_with fail
              go_meet
              exact ⟨rfl, HG7.out⟩
            · have k1 : (r.kind == 1) = false := by rw [int_beq]; exact decide_eq_false h1
              have k2 : (r.kind == 2) = false := by rw [int_beq]; exact decide_eq_false h2
              have k3 : (r.kind == 3) = false := by rw [int_beq]; exact decide_eq_false h3
              have k4 : (r.kind == 4) = false := by rw [int_beq]; exact decide_eq_false h4
              have HT1 := Lib.hid (show false = bt by rw [← HBT.out]; unfold touchR; rw [if_neg h1, if_neg h2, if_neg (by omega)])
              clear h1 h2 h3 h4
              go_wp2_with fail
              go_meet
              exact ⟨by rw [← HT1.out], HG6.out⟩
          case rest =>
            obtain ⟨rfl, hg7⟩ := hcut
            obtain ⟨w7, rfl⟩ : ∃ w7, w7 = wc := ⟨_, rfl⟩
            have HG7 := Lib.hid (HG4.out.step (HG6.out.step hg7))
            have HR7 := Lib.hid (HR6.out.grow hg7)
            clear hg7 hrl c1 c2 y0 y1 y2 hbl9
            cases bt
            · go_wp2_with fail
              go_roundg (l.length - (k + 1))
              case measure => omega
              case rel => exact ⟨k + 1, by omega, rfl, by go_num, by rw [HT.out, HTS.out, HBS.out, HBT.out, if_neg (by simp)]; exact (HSTAY.out _ HG7.out).1, (HSTAY.out _ HG7.out).2⟩
            · obtain ⟨hrl, c1, c2, c3, c4, c5, c6, c7, c0⟩ := HR7.out.cells
              have HM7 := Lib.hid (HM.out.grow HG7.out)
              have hml7 := HM7.out.lt
              have HCV := Lib.hid (cntK_getD (toldR sp (l.take k)) r.id)
              have HST := Lib.hid (cntK_step1 (toldR sp (l.take k)) r.id)
              have hcl : ((toldR sp (l.take k)).count r.id : Int) ≤ k := by
                have h1 := List.count_le_length (a := r.id) (l := toldR sp (l.take k))
                have h2 := HTL.out
                omega
              have hwr : IntKind.i64.wrap (((toldR sp (l.take k)).count r.id : Int) + 1) = ((toldR sp (l.take k)).count r.id : Int) + 1 := by rw [IntKind.wrap_i64]; omega
              generalize (toldR sp (l.take k)).count r.id = c at *
              clear c1 c2 c3 c4 c5 c6 c7
              go_wp2_with (first
                | (at_lookup; go_must (refine wpList_lookK _ rfl (.tmp 56) (.tmp 58) 151 rfl 3 3 Tryz.underlying151 (keyK_int Tryz.underlying3) (.int .i64 0) (zeroIntV _) _ _ _ rfl HM7.out r.id rfl _ HCV.out ?_))
                | (at_mapUpdate; go_must (refine wpList_updK _ rfl (.tmp 56) (.tmp 58) (.tmp 60) 151 rfl 3 3 Tryz.underlying151 (keyK_int Tryz.underlying3) _ _ _ rfl HM7.out r.id rfl (.int .i64 ((c : Int) + 1)) (by first | rfl | (simp [hwr]; done) | go_num) ?_); intro w8 g1 _ g3 _; go_frame))
              rw [HST.out] at g1
              go_roundg (l.length - (k + 1))
              case measure => omega
              case rel =>
                refine ⟨k + 1, by omega, rfl, by go_num, ?_, (HSTAY.out _ HG7.out).2.step g3⟩
                rw [HT.out, HTS.out, HBS.out, HBT.out, if_pos (by simp)]
                exact g1
    · have hkk : l.take k = l := List.take_of_length_le (by omega)
      rw [hkk] at HM
      clear hkk
      go_wp2_with fail
      refine (mapsKeysN (w.heap.size + 1) wr).mono ?_
      rintro e w7 ⟨rfl, rfl⟩
      go_wp2_with fail
      refine (slicesSortedN (w.heap.size + 1) k _ wr HM.out (by have := HBD.out; omega) (fun x hx => ?_)).mono ?_
      · have hxm : x ∈ toldR sp l := by
          by_cases h : x ∈ toldR sp l
          · exact h
          · exfalso
            apply hx
            unfold cntK
            rw [if_pos (List.count_eq_zero.2 h)]
        unfold toldR at hxm
        obtain ⟨e, he, rfl⟩ := List.mem_map.1 hxm
        exact HWF.out e (List.mem_filter.1 he).1
      rintro e w8 ⟨v8, L, rfl, hL, hv8, hg8⟩
      have HR := Lib.hid (show RSet L (· ∈ toldR sp l) from hL.congr fun y => by
        unfold cntK
        by_cases h : List.count y (toldR sp l) = 0
        · rw [if_pos h]
          simp only [ne_eq, not_true_eq_false, false_iff]
          exact List.count_eq_zero.1 h
        · rw [if_neg h]
          simp only [ne_eq, reduceCtorEq, not_false_eq_true, true_iff]
          exact List.count_pos_iff.1 (by omega))
      have HV8 := Lib.hid (SlR.sub hv8 (fun b (hb : wr.heap.size ≤ b) => Nat.le_trans HGW.out.size hb) (fun _ _ _ h => h))
      have HG8 := Lib.hid (HGW.out.step hg8)
      clear hL hv8 hg8
      go_wp2
      go_ret
      exact ⟨_, L, rfl, HR.out, HV8.out, HG8.out⟩
end Go.Hg

namespace Go.Hg
open Go.RowKit Go.Proofs

abbrev PRule.cells (x : PRule) : List Value := [.int .i64 x.id, .int .i64 x.kind, .string x.typ, .string x.name, .string x.from_, .string x.to_, .int .i64 x.n, .int .i64 x.state]
end Go.Hg

namespace Go.Hg

def SrtTo (l : List Int) (i : Nat) : Prop := ∀ (a b : Nat) (x y : Int), a < b → b < i → l[a]? = some x → l[b]? = some y → x ≤ y
def SrtBut (l : List Int) (i k : Nat) : Prop := (∀ (a b : Nat) (x y : Int), a < b → b ≤ i → a ≠ k → b ≠ k → l[a]? = some x → l[b]? = some y → x ≤ y) ∧ ∀ (b : Nat) (x y : Int), k < b → b ≤ i → l[k]? = some x → l[b]? = some y → x ≤ y
def swp (l : List Int) (m : Nat) (p q : Int) : List Int := (l.set m q).set (m + 1) p
theorem swp_get {l : List Int} {m : Nat} {p q : Int} (h1 : l[m]? = some p) (h2 : l[m + 1]? = some q) (a : Nat) : (swp l m p q)[a]? = if a = m then some q else if a = m + 1 then some p else l[a]? := by
  have hm := (List.getElem?_eq_some_iff.1 h1).1
  have hm1 := (List.getElem?_eq_some_iff.1 h2).1
  unfold swp
  by_cases ha : a = m
  · subst ha
    rw [if_pos rfl, List.getElem?_set_ne (by omega), List.getElem?_set_self hm]
  · rw [if_neg ha]
    by_cases ha2 : a = m + 1
    · subst ha2
      rw [if_pos rfl, List.getElem?_set_self (by simpa using hm1)]
    · rw [if_neg ha2, List.getElem?_set_ne (by omega), List.getElem?_set_ne (by omega)]
theorem swp_len (l : List Int) (m : Nat) (p q : Int) : (swp l m p q).length = l.length := by simp [swp]
theorem SrtBut.step {l : List Int} {i m : Nat} {p q : Int} (h : SrtBut l i (m + 1)) (h1 : l[m]? = some p) (h2 : l[m + 1]? = some q) (hpq : q < p) (hm : m + 1 ≤ i) : SrtBut (swp l m p q) i m := by
  refine ⟨fun a b x y hab hbi ha hb hx hy => ?_, fun b x y hb hbi hx hy => ?_⟩
  · rw [swp_get h1 h2] at hx hy
    rw [if_neg ha] at hx
    rw [if_neg hb] at hy
    by_cases ha1 : a = m + 1
    · rw [if_pos ha1] at hx
      cases hx
      rw [if_neg (by omega)] at hy
      exact h.1 m b _ _ (by omega) hbi (by omega) (by omega) h1 hy
    · rw [if_neg ha1] at hx
      by_cases hb1 : b = m + 1
      · rw [if_pos hb1] at hy
        cases hy
        exact h.1 a m _ _ (by omega) (by omega) (by omega) (by omega) hx h1
      · rw [if_neg hb1] at hy
        exact h.1 a b _ _ hab hbi ha1 hb1 hx hy
  · rw [swp_get h1 h2] at hx hy
    rw [if_pos rfl] at hx
    cases hx
    rw [if_neg (by omega)] at hy
    by_cases hb1 : b = m + 1
    · rw [if_pos hb1] at hy
      cases hy
      omega
    · rw [if_neg hb1] at hy
      exact h.2 b _ _ (by omega) hbi h2 hy
theorem SrtTo.one (l : List Int) : SrtTo l 1 := fun a b _ _ h1 h2 => by omega
theorem le_lt {l : List Int} (h : l.Pairwise (· ≤ ·)) (hn : l.Nodup) : l.Pairwise (· < ·) := (h.and hn).imp fun {a b} ⟨h1, h2⟩ => by omega
end Go.Hg

namespace Go.Hg
open Go.RowKit Go.Proofs

theorem RBrk.sorted {N : List PNode} {E : List PEdge} {r : PRule} {L L' : List Int} (h : RBrk N E r L) (hN : (N.map (·.id)).Pairwise (· < ·)) (hE : (E.map (·.id)).Pairwise (· < ·)) (hp : L'.Perm L) (hs : L'.Pairwise (· ≤ ·)) : BrokenR N E r L' := by
  refine ⟨fun hf => ?_, fun hf => ?_⟩
  · rw [h.1 hf] at hp
    exact hp.eq_nil
  · by_cases hk : r.kind = 4
    · have h1 := h.2 hf
      rw [if_pos hk] at h1
      unfold BrkR
      rw [if_neg (by omega), if_neg (by omega), if_neg (by omega)]
      exact ⟨le_lt hs (hp.nodup_iff.2 h1.1), fun y => (hp.mem_iff).trans (h1.2 y)⟩
    · have h2 : BrokenR N E r L := ⟨h.1, fun hf => by have := h.2 hf; rwa [if_neg hk] at this⟩
      have h3 := h2.nodup hN hE
      have h4 : RSet L' (· ∈ L) := ⟨le_lt hs (hp.nodup_iff.2 (rises_nodup h3)), fun y => hp.mem_iff⟩
      have h5 : L' = L := h4.uniq (⟨h3, fun y => Iff.rfl⟩ : RSet L (· ∈ L)) fun _ => Iff.rfl
      rw [h5]
      exact h2.2 hf
theorem IdsO.swap {w : World} {v : Value} {l : List Int} {g : Nat} (h : IdsO w v l (some g)) (m : Nat) (p q : Int) : IdsO ((w.setCell ⟨g, m, none⟩ (.int .i64 q)).setCell ⟨g, m + 1, none⟩ (.int .i64 p)) v (swp l m p q) (some g) := by
  have h1 := OwnS.stored (OwnS.stored h rfl m (.int .i64 q)) rfl (m + 1) (.int .i64 p)
  unfold IdsO
  rw [swp_len]
  unfold swp
  rw [List.map_set, List.map_set]
  exact h1
end Go.Hg

namespace Go.Hg
open Go.RowKit Go.Proofs

theorem rulesLit (W : World) (l : List PRule) (hm : l.length ≤ maxLen) {nb : Nat} (h : W.heap.size = nb) : SlR (fun _ => True) (W.alloc (.cells (l.map PRule.cells).flatten.toArray 24)) 8 RRule (.slice (some ⟨nb, 0, none⟩) l.length l.length) l := by
  subst h
  have hf : (l.map PRule.cells).flatten.length = l.length * 8 := by
    clear hm
    induction l with
    | nil => rfl
    | cons a t ih => simp only [List.map_cons, List.flatten_cons, List.length_append, ih, List.length_cons]; simp; omega
  have h1 := OwnS.lit W (l.map PRule.cells).flatten.toArray 24 8 l.length hm (by simpa using hf)
  have h2 : OwnL (W.alloc (.cells (l.map PRule.cells).flatten.toArray 24)) 24 8 RRule (.slice (some ⟨W.heap.size, 0, none⟩) l.length l.length) l (some W.heap.size) := ⟨l.map PRule.cells, by simp, fun k x r hx hr => by
    rw [List.getElem?_map, hx] at hr
    simp only [Option.map_some, Option.some.injEq] at hr
    subst hr
    exact ⟨rfl, rfl⟩, by simpa using h1⟩
  exact h2.toSl (fun _ _ => trivial)

theorem w21_fair : fairOps [wo1] = true := by decide
theorem w21_made : madeG [wo1] = wG1 := by unfold madeG madeK; exact wg1
theorem opsLit1 (W : World) (o : POp) {nb : Nat} (h : W.heap.size = nb) : OpsR (fun _ => True) (W.alloc (.cells o.cells.toArray 44)) (.slice (some ⟨nb, 0, none⟩) 1 1) [o] := by
  subst h
  exact opsOwn (l := [o]) (ob := some W.heap.size) (by
    have h1 := OwnS.lit W o.cells.toArray 44 10 1 (by simp [maxLen]) rfl
    simpa using h1)

end Go.Hg

namespace Go.Hg
open Go.RowKit Go.Proofs

def GraphP (P : Nat → Prop) (w : World) (B : Nat) (G : PGraph) : Prop := ∃ S : Nat → Prop, GraphOk 120 S w B G ∧ ∀ b, S b → P b
theorem GraphP.grow {P : Nat → Prop} {w w' : World} {B : Nat} {G : PGraph} (h : GraphP P w B G) (g : Grow w w') : GraphP P w' B G := by
  obtain ⟨S, h1, h2⟩ := h
  exact ⟨S, h1.grow g, h2⟩
theorem doP (P SC : Nat → Prop) (B : Nat) (G : PGraph) (nv ev rv iv : Value) (c : PCat) (o : POp) (w0 w : World) (h : GraphP P w0 B G) (g : Grow w0 w) (hP : ∀ b, w.heap.size ≤ b → P b) (hG : GInv G) (hc : CatR SC w nv ev rv iv c) :
    Calls Tryz.prog 22 #[.pointer (some ⟨B, 0, none⟩), c.arg nv ev rv iv, o.args] w fun e w' =>
      e = .returned (.tuple #[.int .i64 (if mayG c o G = 0 then idG o G else 0), .int .i64 (mayG c o G)]) ∧ GraphP P w' B (stepG c o G) ∧ Mod (fun b => P b ∧ b < w0.heap.size) w w' := by
  obtain ⟨S, h1, h2⟩ := h
  exact (graphDo _ SC B G nv ev rv iv c o w (h1.cut.grow g) hG hc).mono fun e w' ⟨k1, k2, k3⟩ => ⟨k1, ⟨_, k2, fun b hb => hb.elim (fun h => h2 b h.1) (hP b)⟩, k3.mono fun b hb => ⟨h2 b hb.1, hb.2⟩⟩
end Go.Hg
