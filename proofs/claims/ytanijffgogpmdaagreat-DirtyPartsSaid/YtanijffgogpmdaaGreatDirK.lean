/- (dirty.spots).note: setting a property; any change that may be done. Conditions: those that each theorem names. -/
import Derived.WalkKit
import Derived.WalkSpells
import Derived.WalkLawsBesides
import Derived.Lib.Hide
import Derived.BigQuiet
import Derived.Deep.LoopGhost
import Derived.Test.YtanijffgogpmdaaGreatRows
import Derived.Lib.SliceRun
import Derived.WideMake
import Derived.Deep.RegionLaw
import Derived.Lib.Overlaps
import Derived.Deep.RegionHeld3
import Derived.Laws.ResultCell
import Derived.Laws.EntriesVeiled
import Derived.Maps.OwnOps
import Derived.Maps.OwnSet
import Derived.Carry
import Derived.Lib.SlKeysI
import Derived.Maps.RangeWalk
import Derived.Lib.SlMapFilter
import Derived.Deep.DeepCutAuto
import Derived.Shelf.SlIterI.Nil
import Derived.Shelf.SortM.Plain
import Derived.Shelf.SortM.SortNone
import Derived.Shelf.SlMaps.DeleteFunc
import Derived.Shelf.SlSortCmp.WholeK
import Derived.Shelf.SlIterI.Collect
import Derived.RangeFuncBox
import Derived.RangeFuncLeaves
import Derived.RangeFuncWrites
import Derived.Maps.AppendAt
import Derived.Deep.CutBlock
import Derived.Test.YtanijffgogpmdaaGreatDirJ
namespace Go.Hg
open Go.RowKit Go.Proofs MapKept Go.Maps

set_option maxRecDepth 100000 in
set_option maxHeartbeats 8000000 in
theorem note2 (S : Nat → Prop) (Bm B n : Nat) (M : List PSpot) (G : PGraph) (c : PCat) (o : POp) (w : World) (h : GraphOk 120 S w B G) (hG : GInv G) (hm : mayG c o G = 0) (hmk : MapK PSpot.args w Bm (cntK M) n) (hM : M.length ≤ 100000) (hS : ¬ S Bm) (hk : o.kind = 2) :
    Calls Tryz.prog 86 #[.map (some Bm), .pointer (some ⟨B, 0, none⟩), o.args] w (NoteP Bm n M G o w) := by
  have HOK := Lib.hid h; have HI := Lib.hid hG; have HMK := Lib.hid hmk; have HML := Lib.hid hM; have HS := Lib.hid hS
  obtain ⟨kind, id, typ, from_, to_, name, v, cascade⟩ := o
  subst hk
  have HM := Lib.hid hm
  have HW := Lib.hid (show ∀ o1, Grow w (w.alloc o1) from fun o1 => (Grow.rfl' w).allocd o1)
  have HBX := Lib.hid (opBox w ⟨2, id, typ, from_, to_, name, v, cascade⟩)
  have hbm := hmk.lt
  have HB1 := Lib.hid (show G.nodes.length ≤ 1099511627776 ∧ G.edges.length ≤ 1099511627776 by have := hG.items; omega)
  have HB2 := Lib.hid (show ∀ x ∈ G.nodes, x.props.length ≤ 1099511627776 from fun x hx => by have := (hG.nodesB x hx).2.2; omega)
  have HB3 := Lib.hid (show ∀ x ∈ G.edges, x.props.length ≤ 1099511627776 from fun x hx => by have := (hG.edgesB x hx).2.2; omega)
  clear h hG hm hmk hM hS
  go_enter Tryz.func86, Tryz.ntmps86
  go_wp2_with fail
  refine (graphGetNode S B G id _ (HOK.out.grow (HW.out _)).rd HI.out.nodes HB1.out.1 HB2.out).mono ?_
  rintro e w2 h2
  obtain ⟨i2, t2, a2, n2, c2, b2, rfl, hgot, g2⟩ := h2.got
  have HN := Lib.hid hgot
  have HG2 := Lib.hid ((HW.out _).step g2)
  have HOP2 := Lib.hid (HBX.out.grow g2)
  clear g2 hgot h2
  obtain ⟨hl2, p0, p1, -⟩ := HOP2.out.at
  have HW2 := Lib.hid (show ∀ o1, Grow w2 (w2.alloc o1) from fun o1 => (Grow.rfl' w2).allocd o1)
  have HNB := Lib.hid (heap_alloc_new w2 (.cells #[.int .i64 i2, .string t2, .slice a2 n2 c2] 94))
  go_wp2_with fail
  refine (graphGetEdge S B G id _ (HOK.out.grow (HG2.out.step (HW2.out _))).rd HI.out.edges HB1.out.2 HB3.out).mono ?_
  rintro e w3 h3
  obtain ⟨i3, t3, f3, o3, a3, n3, c3, b3, rfl, hgot, g3⟩ := h3.got
  have HE := Lib.hid hgot
  have HG3 := Lib.hid (HG2.out.step ((HW2.out _).step g3))
  have HOP3 := Lib.hid (HOP2.out.grow ((HW2.out _).step g3))
  have HNB3 := Lib.hid ((g3.heapEq (blk_lt HNB.out)).trans HNB.out)
  have HL3 := Lib.hid (show w2.heap.size + 1 ≤ w3.heap.size by have := g3.size; simpa using this)
  clear g3 hgot h3 p0 p1 hl2
  obtain ⟨hl3, p0, -⟩ := HOP3.out.at
  have HW3 := Lib.hid (show ∀ o1, Grow w3 (w3.alloc o1) from fun o1 => (Grow.rfl' w3).allocd o1)
  obtain ⟨W4, hW4⟩ : ∃ W4, w3.alloc (.cells #[.int .i64 i3, .string t3, .int .i64 f3, .int .i64 o3, .slice a3 n3 c3] 98) = W4 := ⟨_, rfl⟩
  have HEB4 := Lib.hid (show W4.heap[w3.heap.size]? = some (.cells #[.int .i64 i3, .string t3, .int .i64 f3, .int .i64 o3, .slice a3 n3 c3] 98 (0, 0)) from hW4 ▸ heap_alloc_new w3 _)
  have HG34 := Lib.hid (show Grow w3 W4 from hW4 ▸ HW3.out _)
  have HG4 := Lib.hid (HG3.out.step HG34.out)
  have HBM := Lib.hid (show Bm < w.heap.size from hbm)
  have HSZ := Lib.hid (show w.heap.size ≤ w2.heap.size ∧ w2.heap.size < w3.heap.size ∧ w3.heap.size < W4.heap.size from ⟨HG2.out.size, HL3.out, blk_lt HEB4.out⟩)
  have HOPm := Lib.hid (show ∀ w', Mod (fun q => q = Bm) W4 w' → OpAt w' w.heap.size ⟨2, id, typ, from_, to_, name, v, cascade⟩ from fun w' g => (HOP3.out.grow HG34.out).modd g (by have := HBM.out; omega))
  have HNBm := Lib.hid (show ∀ w', Mod (fun q => q = Bm) W4 w' → w'.heap[w2.heap.size]? = some (.cells #[.int .i64 i2, .string t2, .slice a2 n2 c2] 94 (0, 0)) from fun w' g => (g.block _ (by have := HSZ.out; omega) (by have := HSZ.out; have := HBM.out; omega)).trans ((HG34.out.heapEq HSZ.out.2.1).trans HNB3.out))
  have HEBm := Lib.hid (show ∀ w', Mod (fun q => q = Bm) W4 w' → w'.heap[w3.heap.size]? = some (.cells #[.int .i64 i3, .string t3, .int .i64 f3, .int .i64 o3, .slice a3 n3 c3] 98 (0, 0)) from fun w' g => (g.block _ (by have := HSZ.out; omega) (by have := HSZ.out; have := HBM.out; omega)).trans HEB4.out)
  have HM4 := Lib.hid (show MapK PSpot.args W4.drew Bm (cntK M) n from HMK.out.grow (HG4.out.drewd))
  have HD4 := Lib.hid (show Mod (fun q => q = Bm) W4 W4.drew from Mod.of_grow ((Grow.rfl' W4).drewd))
  have HW4e := Lib.hid hW4
  clear hbm hW4
  have HWR := Lib.hid (wrapK (M := M) (y := (PSpot.mk 1 t2 ByteArray.empty)) (by have := HML.out; omega))
  have HHN := Lib.hid (may_has2 HM.out)
  go_wp2_with fail
  rw [HW4e.out]
  clear HW4e p0 hl3
  go_cut [] (fun wx => MapK PSpot.args wx Bm (cntK (M ++ [(PSpot.mk 1 t2 ByteArray.empty)])) (n + 1) ∧ Mod (fun q => q = Bm) W4 wx)
  case first =>
    refine wp_region_noPanic ?_
    refine wp_region_held_drew (S := fun w' => w'.cell? ⟨w2.heap.size, 1, none⟩ = some (.string t2)) (by kernel_rfl) ?_ (fun hHeld => ?_)
    · exact (blk_cell (HNBm.out _ HD4.out) _).trans rfl
    refine' wpAnyH_take (i := 0) (oi := ?o43) (v := _) (by simp only [List.getElem?_toArray, List.getElem?_cons_zero]; rfl) (by kernel_rfl) (by kernel_rfl) (by kernel_rfl) (fun _ _ _ h => h) (Or.inl ⟨by rfl, ?y43⟩) (by assumption) ?r43
    case y43 =>
      intro wS hSw
      try dsimp only at hSw
      go_simp
      all_goals with_reducible rfl
    simp only [Act.put, List.setIfInBounds_toArray, List.set_cons_zero, List.set_cons_succ]
    refine' wpAnyH_take (i := 1) (oi := ?o44) (v := _) (by simp only [List.getElem?_toArray, List.getElem?_cons_succ, List.getElem?_cons_zero]; rfl) (by kernel_rfl) (by kernel_rfl) (by kernel_rfl) (fun _ _ _ h => h) (Or.inl ⟨by rfl, ?y44⟩) (by assumption) ?r44
    case y44 =>
      intro wS hSw
      try dsimp only at hSw
      go_simp
      all_goals with_reducible rfl
    simp only [Act.put, List.setIfInBounds_toArray, List.set_cons_zero, List.set_cons_succ]
    refine' wpAnyH_take (i := 2) (oi := ?o45) (v := _) (by simp only [List.getElem?_toArray, List.getElem?_cons_succ, List.getElem?_cons_zero]; rfl) (by kernel_rfl) (by kernel_rfl) (by kernel_rfl) (fun _ _ _ h => h) (Or.inl ⟨by rfl, ?y45⟩) (by assumption) ?r45
    case y45 =>
      intro wS hSw
      try dsimp only at hSw
      go_simp
      all_goals with_reducible rfl
    simp only [Act.put, List.setIfInBounds_toArray, List.set_cons_zero, List.set_cons_succ]
    refine' wpAnyH_take (i := 3) (oi := ?o46) (v := _) (by simp only [List.getElem?_toArray, List.getElem?_cons_succ, List.getElem?_cons_zero]; rfl) (by kernel_rfl) (by kernel_rfl) (by kernel_rfl) (fun _ _ _ h => h) (Or.inl ⟨by rfl, ?y46⟩) (by assumption) ?r46
    case y46 =>
      intro wS hSw
      try dsimp only at hSw
      go_simp
      all_goals with_reducible rfl
    simp only [Act.put, List.setIfInBounds_toArray, List.set_cons_zero, List.set_cons_succ]
    refine wpAnyH_ready (rs := [4, 6]) (by kernel_rfl) (by simp) ?_
    refine' AllReadyH.cons (o := ?o47) (by simp only [List.getElem?_toArray, List.getElem?_cons_succ, List.getElem?_cons_zero]; rfl) (fun K hK => ?s47) ?m47
    rotate_left
    · refine' AllReadyH.cons (o := ?o48) (by simp only [List.getElem?_toArray, List.getElem?_cons_succ, List.getElem?_cons_zero]; rfl) (fun K hK => ?s48) ?m48
      case m48 => exact AllReadyH.nil
      refine step_entryK rfl (.tmp 50) (.tmp 53) 148 rfl 136 3 Tryz.underlying148 keySpot (.int .i64 0) zeroIntV (by rfl) HM4.out (PSpot.mk 1 t2 ByteArray.empty) (by rfl) _ (cntK_getD _ (PSpot.mk 1 t2 ByteArray.empty)) ?_
      intro w5 s5 q1 q2 q3 q4
      refine hK.out _ _ ?_ (fun hHeld => ?_)
      · exact (blk_cell (HNBm.out w5 (HD4.out.step q3)) _).trans rfl
      clear hK K
      try simp only [Act.put, List.setIfInBounds_toArray, List.set_cons_zero, List.set_cons_succ]
      refine' wpAnyH_take (i := 7) (oi := ?o49) (v := _) (by simp only [List.getElem?_toArray, List.getElem?_cons_succ, List.getElem?_cons_zero]; rfl) (by kernel_rfl) (by kernel_rfl) (by kernel_rfl) (fun _ _ _ h => h) (Or.inl ⟨by rfl, ?y49⟩) (by assumption) ?r49
      case y49 =>
        intro wS hSw
        try dsimp only at hSw
        go_simp
        all_goals with_reducible rfl
      simp only [Act.put, List.setIfInBounds_toArray, List.set_cons_zero, List.set_cons_succ]
      refine wpAnyH_ready (rs := [4]) (by kernel_rfl) (by simp) ?_
      refine' AllReadyH.cons (o := ?o50) (by simp only [List.getElem?_toArray, List.getElem?_cons_succ, List.getElem?_cons_zero]; rfl) (fun K hK => ?s50) ?m50
      case m50 => exact AllReadyH.nil
      refine step_lookK rfl (.tmp 50) (.tmp 53) 148 rfl 136 3 Tryz.underlying148 keySpot (.int .i64 0) (zeroIntV _) (by rfl) q1 (PSpot.mk 1 t2 ByteArray.empty) (by rfl) (.int .i64 ((M).count (PSpot.mk 1 t2 ByteArray.empty) : Int)) (by rw [kput_same]; rfl) ?_
      refine hK.out _ _ ?_ (fun hHeld => ?_)
      · exact (blk_cell (HNBm.out w5 (HD4.out.step q3)) _).trans rfl
      clear hK K
      try simp only [Act.put, List.setIfInBounds_toArray, List.set_cons_zero, List.set_cons_succ]
      refine' wpAnyH_take (i := 5) (oi := ?o51) (v := _) (by simp only [List.getElem?_toArray, List.getElem?_cons_succ, List.getElem?_cons_zero]; rfl) (by kernel_rfl) (by kernel_rfl) (by kernel_rfl) (fun _ _ _ h => h) (Or.inl ⟨by rfl, ?y51⟩) (by assumption) ?r51
      case y51 =>
        intro wS hSw
        try dsimp only at hSw
        go_simp
        all_goals with_reducible rfl
      simp only [Act.put, List.setIfInBounds_toArray, List.set_cons_zero, List.set_cons_succ]
      refine wpAnyH_ready (rs := [8]) (by kernel_rfl) (by simp) ?_
      refine' AllReadyH.cons (o := ?o52) (by simp only [List.getElem?_toArray, List.getElem?_cons_succ, List.getElem?_cons_zero]; rfl) (fun K hK => ?s52) ?m52
      case m52 => exact AllReadyH.nil
      refine step_storeK rfl (.tmp 50) (.tmp 57) (.tmp 55) 148 rfl 136 keySpot (by rfl) q1 (PSpot.mk 1 t2 ByteArray.empty) s5 (by rfl) q2 (.int .i64 (((M).count (PSpot.mk 1 t2 ByteArray.empty) : Int) + 1)) (by simp [Act.eval, HWR.out]) ?_
      intro w6 p1 p3 p4
      rw [kput_twice, ← kput_twice _ _ (.int .i64 0), cntK_step] at p1
      refine hK.out _ _ ?_ (fun hHeld => ?_)
      · exact (blk_cell (HNBm.out w6 (HD4.out.step (q3.step p3))) _).trans rfl
      clear hK K
      try simp only [Act.put]
      refine wpAnyH_done (by kernel_rfl) ?_ _
      refine NoPanic.normal ?_
      have HM6 := Lib.hid p1
      have HD6 := Lib.hid (HD4.out.step (q3.step p3))
      clear q1 q2 q3 q4 p1 p3 p4
      go_wp2_with fail
      go_meet
      exact ⟨HM6.out, HD6.out⟩
    refine step_lookK rfl (.tmp 50) (.tmp 53) 148 rfl 136 3 Tryz.underlying148 keySpot (.int .i64 0) (zeroIntV _) (by rfl) HM4.out (PSpot.mk 1 t2 ByteArray.empty) (by rfl) _ (cntK_getD _ (PSpot.mk 1 t2 ByteArray.empty)) ?_
    refine hK.out _ _ ?_ (fun hHeld => ?_)
    · exact (blk_cell (HNBm.out _ HD4.out) _).trans rfl
    clear hK K
    try simp only [Act.put, List.setIfInBounds_toArray, List.set_cons_zero, List.set_cons_succ]
    refine' wpAnyH_take (i := 5) (oi := ?o53) (v := _) (by simp only [List.getElem?_toArray, List.getElem?_cons_succ, List.getElem?_cons_zero]; rfl) (by kernel_rfl) (by kernel_rfl) (by kernel_rfl) (fun _ _ _ h => h) (Or.inl ⟨by rfl, ?y53⟩) (by assumption) ?r53
    case y53 =>
      intro wS hSw
      try dsimp only at hSw
      go_simp
      all_goals with_reducible rfl
    simp only [Act.put, List.setIfInBounds_toArray, List.set_cons_zero, List.set_cons_succ]
    refine wpAnyH_ready (rs := [6]) (by kernel_rfl) (by simp) ?_
    refine' AllReadyH.cons (o := ?o54) (by simp only [List.getElem?_toArray, List.getElem?_cons_succ, List.getElem?_cons_zero]; rfl) (fun K hK => ?s54) ?m54
    case m54 => exact AllReadyH.nil
    refine step_entryK rfl (.tmp 50) (.tmp 53) 148 rfl 136 3 Tryz.underlying148 keySpot (.int .i64 0) zeroIntV (by rfl) HM4.out (PSpot.mk 1 t2 ByteArray.empty) (by rfl) _ (cntK_getD _ (PSpot.mk 1 t2 ByteArray.empty)) ?_
    intro w5 s5 q1 q2 q3 q4
    refine hK.out _ _ ?_ (fun hHeld => ?_)
    · exact (blk_cell (HNBm.out w5 (HD4.out.step q3)) _).trans rfl
    clear hK K
    try simp only [Act.put, List.setIfInBounds_toArray, List.set_cons_zero, List.set_cons_succ]
    refine' wpAnyH_take (i := 7) (oi := ?o55) (v := _) (by simp only [List.getElem?_toArray, List.getElem?_cons_succ, List.getElem?_cons_zero]; rfl) (by kernel_rfl) (by kernel_rfl) (by kernel_rfl) (fun _ _ _ h => h) (Or.inl ⟨by rfl, ?y55⟩) (by assumption) ?r55
    case y55 =>
      intro wS hSw
      try dsimp only at hSw
      go_simp
      all_goals with_reducible rfl
    simp only [Act.put, List.setIfInBounds_toArray, List.set_cons_zero, List.set_cons_succ]
    refine wpAnyH_ready (rs := [8]) (by kernel_rfl) (by simp) ?_
    refine' AllReadyH.cons (o := ?o56) (by simp only [List.getElem?_toArray, List.getElem?_cons_succ, List.getElem?_cons_zero]; rfl) (fun K hK => ?s56) ?m56
    case m56 => exact AllReadyH.nil
    refine step_storeK rfl (.tmp 50) (.tmp 57) (.tmp 55) 148 rfl 136 keySpot (by rfl) q1 (PSpot.mk 1 t2 ByteArray.empty) s5 (by rfl) q2 (.int .i64 (((M).count (PSpot.mk 1 t2 ByteArray.empty) : Int) + 1)) (by simp [Act.eval, HWR.out]) ?_
    intro w6 p1 p3 p4
    rw [kput_twice, ← kput_twice _ _ (.int .i64 0), cntK_step] at p1
    refine hK.out _ _ ?_ (fun hHeld => ?_)
    · exact (blk_cell (HNBm.out w6 (HD4.out.step (q3.step p3))) _).trans rfl
    clear hK K
    try simp only [Act.put]
    refine wpAnyH_done (by kernel_rfl) ?_ _
    refine NoPanic.normal ?_
    have HM6 := Lib.hid p1
    have HD6 := Lib.hid (HD4.out.step (q3.step p3))
    clear q1 q2 q3 q4 p1 p3 p4
    go_wp2_with fail
    go_meet
    exact ⟨HM6.out, HD6.out⟩
  case rest =>
    obtain ⟨hm6, hd6⟩ := hcut
    obtain ⟨w6, rfl⟩ : ∃ w6, w6 = wc := ⟨_, rfl⟩
    have HM6 := Lib.hid hm6; have HD6 := Lib.hid hd6
    have HOK6 := Lib.hid (HOK.out.keep ((Mod.of_grow HG4.out).step hd6) (fun b hb hq => HS.out (hq ▸ hb)))
    clear hm6 hd6
    go_wp2_with fail
    refine (graphEdges S B G w6 HOK6.out.rd HB1.out.2 HB3.out).mono ?_
    rintro e w7 ⟨ve, obe, rfl, he, hob, g7⟩
    have hsl := he.toSl (S := fun b => w6.heap.size ≤ b) hob
    obtain ⟨aE, cE, rfl, hel, hec, -⟩ := SlR.open hsl
    have HSZ6 := Lib.hid (show w.heap.size ≤ w6.heap.size from Nat.le_trans HG4.out.size HD6.out.size)
    have HER := Lib.hid (show ∀ w', Mod (fun q => q = Bm) w7 w' → SlR (fun b => w6.heap.size ≤ b) w' 5 REdge0 _ G.edges from fun w' g => SlR.keep (SlR.sub hsl (fun _ h => h) (fun _ _ _ h => redge0 h)) (fun b hb hl => g.block b hl (by have := HBM.out; have := HSZ6.out; omega)) g.size (fun _ _ _ h => h))
    have HM7 := Lib.hid (HM6.out.grow g7); have HD7 := Lib.hid (HD6.out.step (Mod.of_grow g7))
    have HEL := Lib.hid (show G.edges.length ≤ 1024 by have := HI.out.items; omega)
    unfold maxLen at hec
    clear g7 he hob hsl HM6 HD6
    go_wp2_with fail
    go_loopg [61] G.edges.length (fun g iv wr => ∃ k : Nat, k ≤ G.edges.length ∧ g = G.edges.length - k ∧ iv = .int .i64 k ∧ MapK PSpot.args wr Bm (cntK (M ++ [(PSpot.mk 1 t2 ByteArray.empty)] ++ edSp (G.edges.take k) id)) (n + 1 + k) ∧ Mod (fun q => q = Bm) W4 wr ∧ Mod (fun q => q = Bm) w7 wr)
    case atStart => exact ⟨0, by omega, by omega, rfl, by simpa [edSp] using HM7.out, HD7.out, Mod.rfl' _ _⟩
    case round =>
      obtain ⟨k, hk, rfl, rfl, hm, hmw, hm7⟩ := hrel
      have HMr := Lib.hid hm; have HMW := Lib.hid (And.intro hmw hm7)
      have HSR := Lib.hid (show w.heap.size ≤ wr.heap.size from Nat.le_trans HG4.out.size hmw.size)
      by_cases hkl : k < G.edges.length
      · obtain ⟨_, _, hv, -, -, hA⟩ := SlR.open (HER.out wr hm7)
        simp only [Value.slice.injEq, true_and] at hv
        obtain ⟨rfl, rfl⟩ := hv
        obtain ⟨ba, oa, ra, rfl, -, hba, ⟨ax, nx, cx, rfl⟩, hca⟩ := hA k G.edges[k] (List.getElem?_eq_getElem hkl)
        have e0 : wr.cell? ⟨ba, oa + k * 5, none⟩ = some (.int .i64 G.edges[k].id) := hca 0 _ rfl
        have e1 : wr.cell? ⟨ba, oa + k * 5 + 1, none⟩ = some (.string G.edges[k].typ) := hca 1 _ rfl
        have e2 : wr.cell? ⟨ba, oa + k * 5 + 2, none⟩ = some (.int .i64 G.edges[k].from_) := hca 2 _ rfl
        have e3 : wr.cell? ⟨ba, oa + k * 5 + 3, none⟩ = some (.int .i64 G.edges[k].to_) := hca 3 _ rfl
        have e4 : wr.cell? ⟨ba, oa + k * 5 + 4, none⟩ = some (.slice ax nx cx) := hca 4 _ rfl
        have HT := Lib.hid (show G.edges.take (k + 1) = G.edges.take k ++ [G.edges[k]] from List.take_succ_eq_append_getElem hkl)
        have HEK := Lib.hid (show (edSp (G.edges.take k) id).length ≤ 1024 by have h1 := edSp_len (G.edges.take k) id; rw [List.length_take] at h1; have := HEL.out; omega)
        obtain ⟨hlo, p0, p1, -⟩ := (HOPm.out wr hmw).at
        clear hca hA hm hmw hm7
        generalize G.edges[k] = x at *
        have HXB := Lib.hid (show (wr.alloc (.cells #[.int .i64 x.id, .string x.typ, .int .i64 x.from_, .int .i64 x.to_, .slice ax nx cx] 98)).drew.heap[wr.heap.size]? = some (.cells #[.int .i64 x.id, .string x.typ, .int .i64 x.from_, .int .i64 x.to_, .slice ax nx cx] 98 (0, 0)) from heap_alloc_new wr _)
        have HXG := Lib.hid (show ∀ o1, Grow wr (wr.alloc o1) ∧ Grow wr (wr.alloc o1).drew from fun o1 => ⟨(Grow.rfl' wr).allocd o1, ((Grow.rfl' wr).allocd o1).drewd⟩)
        have HMX := Lib.hid (show MapK PSpot.args (wr.alloc (.cells #[.int .i64 x.id, .string x.typ, .int .i64 x.from_, .int .i64 x.to_, .slice ax nx cx] 98)).drew Bm _ _ from HMr.out.grow (HXG.out _).2)
        have HDX := Lib.hid (And.intro (HMW.out.1.step (Mod.of_grow (HXG.out (.cells #[.int .i64 x.id, .string x.typ, .int .i64 x.from_, .int .i64 x.to_, .slice ax nx cx] 98)).2)) (HMW.out.2.step (Mod.of_grow (HXG.out (.cells #[.int .i64 x.id, .string x.typ, .int .i64 x.from_, .int .i64 x.to_, .slice ax nx cx] 98)).2)))
        have HWX := Lib.hid (wrapK (M := M ++ [(PSpot.mk 1 t2 ByteArray.empty)] ++ edSp (G.edges.take k) id) (y := (PSpot.mk 2 x.typ ByteArray.empty)) (by have := HML.out; have := HEK.out; simp; omega))
        have HSN := Lib.hid (show M ++ [(PSpot.mk 1 t2 ByteArray.empty)] ++ edSp (G.edges.take (k + 1)) id = if atE x id = true then M ++ [(PSpot.mk 1 t2 ByteArray.empty)] ++ edSp (G.edges.take k) id ++ [(PSpot.mk 2 x.typ ByteArray.empty)] else M ++ [(PSpot.mk 1 t2 ByteArray.empty)] ++ edSp (G.edges.take k) id by
          rw [HT.out, edSp_snoc]
          split
          · rw [← List.append_assoc]
          · rfl)
        generalize M ++ [(PSpot.mk 1 t2 ByteArray.empty)] ++ edSp (G.edges.take k) id = MM at *
        by_cases hf : x.from_ = id
        · have b1 : (x.from_ == id) = true := by simpa using hf
          have HAT := Lib.hid (show atE x id = true by unfold atE; rw [decide_eq_true_eq]; exact .inl hf)
          clear hf
          go_wp2_with fail
          refine wp_region_noPanic ?_
          refine wp_region_held_drew (S := fun w' => w'.cell? ⟨wr.heap.size, 1, none⟩ = some (.string x.typ)) (by kernel_rfl) ?_ (fun hHeld => ?_)
          · exact (blk_cell HXB.out _).trans rfl
          refine' wpAnyH_take (i := 0) (oi := ?o57) (v := _) (by simp only [List.getElem?_toArray, List.getElem?_cons_zero]; rfl) (by kernel_rfl) (by kernel_rfl) (by kernel_rfl) (fun _ _ _ h => h) (Or.inl ⟨by rfl, ?y57⟩) (by assumption) ?r57
          case y57 =>
            intro wS hSw
            try dsimp only at hSw
            go_simp
            all_goals with_reducible rfl
          simp only [Act.put, List.setIfInBounds_toArray, List.set_cons_zero, List.set_cons_succ]
          refine' wpAnyH_take (i := 1) (oi := ?o58) (v := _) (by simp only [List.getElem?_toArray, List.getElem?_cons_succ, List.getElem?_cons_zero]; rfl) (by kernel_rfl) (by kernel_rfl) (by kernel_rfl) (fun _ _ _ h => h) (Or.inl ⟨by rfl, ?y58⟩) (by assumption) ?r58
          case y58 =>
            intro wS hSw
            try dsimp only at hSw
            go_simp
            all_goals with_reducible rfl
          simp only [Act.put, List.setIfInBounds_toArray, List.set_cons_zero, List.set_cons_succ]
          refine' wpAnyH_take (i := 2) (oi := ?o59) (v := _) (by simp only [List.getElem?_toArray, List.getElem?_cons_succ, List.getElem?_cons_zero]; rfl) (by kernel_rfl) (by kernel_rfl) (by kernel_rfl) (fun _ _ _ h => h) (Or.inl ⟨by rfl, ?y59⟩) (by assumption) ?r59
          case y59 =>
            intro wS hSw
            try dsimp only at hSw
            go_simp
            all_goals with_reducible rfl
          simp only [Act.put, List.setIfInBounds_toArray, List.set_cons_zero, List.set_cons_succ]
          refine' wpAnyH_take (i := 3) (oi := ?o60) (v := _) (by simp only [List.getElem?_toArray, List.getElem?_cons_succ, List.getElem?_cons_zero]; rfl) (by kernel_rfl) (by kernel_rfl) (by kernel_rfl) (fun _ _ _ h => h) (Or.inl ⟨by rfl, ?y60⟩) (by assumption) ?r60
          case y60 =>
            intro wS hSw
            try dsimp only at hSw
            go_simp
            all_goals with_reducible rfl
          simp only [Act.put, List.setIfInBounds_toArray, List.set_cons_zero, List.set_cons_succ]
          refine wpAnyH_ready (rs := [4, 6]) (by kernel_rfl) (by simp) ?_
          refine' AllReadyH.cons (o := ?o61) (by simp only [List.getElem?_toArray, List.getElem?_cons_succ, List.getElem?_cons_zero]; rfl) (fun K hK => ?s61) ?m61
          rotate_left
          · refine' AllReadyH.cons (o := ?o62) (by simp only [List.getElem?_toArray, List.getElem?_cons_succ, List.getElem?_cons_zero]; rfl) (fun K hK => ?s62) ?m62
            case m62 => exact AllReadyH.nil
            refine step_entryK rfl (.tmp 77) (.tmp 80) 148 rfl 136 3 Tryz.underlying148 keySpot (.int .i64 0) zeroIntV (by rfl) HMX.out (PSpot.mk 2 x.typ ByteArray.empty) (by rfl) _ (cntK_getD _ (PSpot.mk 2 x.typ ByteArray.empty)) ?_
            intro w5 s5 q1 q2 q3 q4
            refine hK.out _ _ ?_ (fun hHeld => ?_)
            · exact (blk_cell ((q3.block _ (blk_lt HXB.out) (by have := HBM.out; have := HSR.out; omega)).trans HXB.out) _).trans rfl
            clear hK K
            try simp only [Act.put, List.setIfInBounds_toArray, List.set_cons_zero, List.set_cons_succ]
            refine' wpAnyH_take (i := 7) (oi := ?o63) (v := _) (by simp only [List.getElem?_toArray, List.getElem?_cons_succ, List.getElem?_cons_zero]; rfl) (by kernel_rfl) (by kernel_rfl) (by kernel_rfl) (fun _ _ _ h => h) (Or.inl ⟨by rfl, ?y63⟩) (by assumption) ?r63
            case y63 =>
              intro wS hSw
              try dsimp only at hSw
              go_simp
              all_goals with_reducible rfl
            simp only [Act.put, List.setIfInBounds_toArray, List.set_cons_zero, List.set_cons_succ]
            refine wpAnyH_ready (rs := [4]) (by kernel_rfl) (by simp) ?_
            refine' AllReadyH.cons (o := ?o64) (by simp only [List.getElem?_toArray, List.getElem?_cons_succ, List.getElem?_cons_zero]; rfl) (fun K hK => ?s64) ?m64
            case m64 => exact AllReadyH.nil
            refine step_lookK rfl (.tmp 77) (.tmp 80) 148 rfl 136 3 Tryz.underlying148 keySpot (.int .i64 0) (zeroIntV _) (by rfl) q1 (PSpot.mk 2 x.typ ByteArray.empty) (by rfl) (.int .i64 ((MM).count (PSpot.mk 2 x.typ ByteArray.empty) : Int)) (by rw [kput_same]; rfl) ?_
            refine hK.out _ _ ?_ (fun hHeld => ?_)
            · exact (blk_cell ((q3.block _ (blk_lt HXB.out) (by have := HBM.out; have := HSR.out; omega)).trans HXB.out) _).trans rfl
            clear hK K
            try simp only [Act.put, List.setIfInBounds_toArray, List.set_cons_zero, List.set_cons_succ]
            refine' wpAnyH_take (i := 5) (oi := ?o65) (v := _) (by simp only [List.getElem?_toArray, List.getElem?_cons_succ, List.getElem?_cons_zero]; rfl) (by kernel_rfl) (by kernel_rfl) (by kernel_rfl) (fun _ _ _ h => h) (Or.inl ⟨by rfl, ?y65⟩) (by assumption) ?r65
            case y65 =>
              intro wS hSw
              try dsimp only at hSw
              go_simp
              all_goals with_reducible rfl
            simp only [Act.put, List.setIfInBounds_toArray, List.set_cons_zero, List.set_cons_succ]
            refine wpAnyH_ready (rs := [8]) (by kernel_rfl) (by simp) ?_
            refine' AllReadyH.cons (o := ?o66) (by simp only [List.getElem?_toArray, List.getElem?_cons_succ, List.getElem?_cons_zero]; rfl) (fun K hK => ?s66) ?m66
            case m66 => exact AllReadyH.nil
            refine step_storeK rfl (.tmp 77) (.tmp 84) (.tmp 82) 148 rfl 136 keySpot (by rfl) q1 (PSpot.mk 2 x.typ ByteArray.empty) s5 (by rfl) q2 (.int .i64 (((MM).count (PSpot.mk 2 x.typ ByteArray.empty) : Int) + 1)) (by simp [Act.eval, HWX.out]) ?_
            intro w6 p1 p3 p4
            rw [kput_twice, ← kput_twice _ _ (.int .i64 0), cntK_step] at p1
            refine hK.out _ _ ?_ (fun hHeld => ?_)
            · exact (blk_cell (((q3.step p3).block _ (blk_lt HXB.out) (by have := HBM.out; have := HSR.out; omega)).trans HXB.out) _).trans rfl
            clear hK K
            try simp only [Act.put]
            refine wpAnyH_done (by kernel_rfl) ?_ _
            refine NoPanic.normal ?_
            have HM6 := Lib.hid p1
            have HD6 := Lib.hid (And.intro (HDX.out.1.step (q3.step p3)) (HDX.out.2.step (q3.step p3)))
            clear q1 q2 q3 q4 p1 p3 p4
            go_wp2
            go_roundg (G.edges.length - (k + 1))
            case measure => omega
            case rel => exact ⟨k + 1, by omega, rfl, by go_num, by rw [HSN.out, if_pos HAT.out]; exact HM6.out.mono (by omega), HD6.out⟩
          refine step_lookK rfl (.tmp 77) (.tmp 80) 148 rfl 136 3 Tryz.underlying148 keySpot (.int .i64 0) (zeroIntV _) (by rfl) HMX.out (PSpot.mk 2 x.typ ByteArray.empty) (by rfl) _ (cntK_getD _ (PSpot.mk 2 x.typ ByteArray.empty)) ?_
          refine hK.out _ _ ?_ (fun hHeld => ?_)
          · exact (blk_cell HXB.out _).trans rfl
          clear hK K
          try simp only [Act.put, List.setIfInBounds_toArray, List.set_cons_zero, List.set_cons_succ]
          refine' wpAnyH_take (i := 5) (oi := ?o67) (v := _) (by simp only [List.getElem?_toArray, List.getElem?_cons_succ, List.getElem?_cons_zero]; rfl) (by kernel_rfl) (by kernel_rfl) (by kernel_rfl) (fun _ _ _ h => h) (Or.inl ⟨by rfl, ?y67⟩) (by assumption) ?r67
          case y67 =>
            intro wS hSw
            try dsimp only at hSw
            go_simp
            all_goals with_reducible rfl
          simp only [Act.put, List.setIfInBounds_toArray, List.set_cons_zero, List.set_cons_succ]
          refine wpAnyH_ready (rs := [6]) (by kernel_rfl) (by simp) ?_
          refine' AllReadyH.cons (o := ?o68) (by simp only [List.getElem?_toArray, List.getElem?_cons_succ, List.getElem?_cons_zero]; rfl) (fun K hK => ?s68) ?m68
          case m68 => exact AllReadyH.nil
          refine step_entryK rfl (.tmp 77) (.tmp 80) 148 rfl 136 3 Tryz.underlying148 keySpot (.int .i64 0) zeroIntV (by rfl) HMX.out (PSpot.mk 2 x.typ ByteArray.empty) (by rfl) _ (cntK_getD _ (PSpot.mk 2 x.typ ByteArray.empty)) ?_
          intro w5 s5 q1 q2 q3 q4
          refine hK.out _ _ ?_ (fun hHeld => ?_)
          · exact (blk_cell ((q3.block _ (blk_lt HXB.out) (by have := HBM.out; have := HSR.out; omega)).trans HXB.out) _).trans rfl
          clear hK K
          try simp only [Act.put, List.setIfInBounds_toArray, List.set_cons_zero, List.set_cons_succ]
          refine' wpAnyH_take (i := 7) (oi := ?o69) (v := _) (by simp only [List.getElem?_toArray, List.getElem?_cons_succ, List.getElem?_cons_zero]; rfl) (by kernel_rfl) (by kernel_rfl) (by kernel_rfl) (fun _ _ _ h => h) (Or.inl ⟨by rfl, ?y69⟩) (by assumption) ?r69
          case y69 =>
            intro wS hSw
            try dsimp only at hSw
            go_simp
            all_goals with_reducible rfl
          simp only [Act.put, List.setIfInBounds_toArray, List.set_cons_zero, List.set_cons_succ]
          refine wpAnyH_ready (rs := [8]) (by kernel_rfl) (by simp) ?_
          refine' AllReadyH.cons (o := ?o70) (by simp only [List.getElem?_toArray, List.getElem?_cons_succ, List.getElem?_cons_zero]; rfl) (fun K hK => ?s70) ?m70
          case m70 => exact AllReadyH.nil
          refine step_storeK rfl (.tmp 77) (.tmp 84) (.tmp 82) 148 rfl 136 keySpot (by rfl) q1 (PSpot.mk 2 x.typ ByteArray.empty) s5 (by rfl) q2 (.int .i64 (((MM).count (PSpot.mk 2 x.typ ByteArray.empty) : Int) + 1)) (by simp [Act.eval, HWX.out]) ?_
          intro w6 p1 p3 p4
          rw [kput_twice, ← kput_twice _ _ (.int .i64 0), cntK_step] at p1
          refine hK.out _ _ ?_ (fun hHeld => ?_)
          · exact (blk_cell (((q3.step p3).block _ (blk_lt HXB.out) (by have := HBM.out; have := HSR.out; omega)).trans HXB.out) _).trans rfl
          clear hK K
          try simp only [Act.put]
          refine wpAnyH_done (by kernel_rfl) ?_ _
          refine NoPanic.normal ?_
          have HM6 := Lib.hid p1
          have HD6 := Lib.hid (And.intro (HDX.out.1.step (q3.step p3)) (HDX.out.2.step (q3.step p3)))
          clear q1 q2 q3 q4 p1 p3 p4
          go_wp2
          go_roundg (G.edges.length - (k + 1))
          case measure => omega
          case rel => exact ⟨k + 1, by omega, rfl, by go_num, by rw [HSN.out, if_pos HAT.out]; exact HM6.out.mono (by omega), HD6.out⟩
        · have b1 : (x.from_ == id) = false := by simpa using hf
          by_cases ht : x.to_ = id
          · have b2' : (x.to_ == id) = true := by simpa using ht
            have HAT := Lib.hid (show atE x id = true by unfold atE; rw [decide_eq_true_eq]; exact .inr ht)
            clear hf ht
            go_wp2_with fail
            refine wp_region_noPanic ?_
            refine wp_region_held_drew (S := fun w' => w'.cell? ⟨wr.heap.size, 1, none⟩ = some (.string x.typ)) (by kernel_rfl) ?_ (fun hHeld => ?_)
            · exact (blk_cell HXB.out _).trans rfl
            refine' wpAnyH_take (i := 0) (oi := ?o71) (v := _) (by simp only [List.getElem?_toArray, List.getElem?_cons_zero]; rfl) (by kernel_rfl) (by kernel_rfl) (by kernel_rfl) (fun _ _ _ h => h) (Or.inl ⟨by rfl, ?y71⟩) (by assumption) ?r71
            case y71 =>
              intro wS hSw
              try dsimp only at hSw
              go_simp
              all_goals with_reducible rfl
            simp only [Act.put, List.setIfInBounds_toArray, List.set_cons_zero, List.set_cons_succ]
            refine' wpAnyH_take (i := 1) (oi := ?o72) (v := _) (by simp only [List.getElem?_toArray, List.getElem?_cons_succ, List.getElem?_cons_zero]; rfl) (by kernel_rfl) (by kernel_rfl) (by kernel_rfl) (fun _ _ _ h => h) (Or.inl ⟨by rfl, ?y72⟩) (by assumption) ?r72
            case y72 =>
              intro wS hSw
              try dsimp only at hSw
              go_simp
              all_goals with_reducible rfl
            simp only [Act.put, List.setIfInBounds_toArray, List.set_cons_zero, List.set_cons_succ]
            refine' wpAnyH_take (i := 2) (oi := ?o73) (v := _) (by simp only [List.getElem?_toArray, List.getElem?_cons_succ, List.getElem?_cons_zero]; rfl) (by kernel_rfl) (by kernel_rfl) (by kernel_rfl) (fun _ _ _ h => h) (Or.inl ⟨by rfl, ?y73⟩) (by assumption) ?r73
            case y73 =>
              intro wS hSw
              try dsimp only at hSw
              go_simp
              all_goals with_reducible rfl
            simp only [Act.put, List.setIfInBounds_toArray, List.set_cons_zero, List.set_cons_succ]
            refine' wpAnyH_take (i := 3) (oi := ?o74) (v := _) (by simp only [List.getElem?_toArray, List.getElem?_cons_succ, List.getElem?_cons_zero]; rfl) (by kernel_rfl) (by kernel_rfl) (by kernel_rfl) (fun _ _ _ h => h) (Or.inl ⟨by rfl, ?y74⟩) (by assumption) ?r74
            case y74 =>
              intro wS hSw
              try dsimp only at hSw
              go_simp
              all_goals with_reducible rfl
            simp only [Act.put, List.setIfInBounds_toArray, List.set_cons_zero, List.set_cons_succ]
            refine wpAnyH_ready (rs := [4, 6]) (by kernel_rfl) (by simp) ?_
            refine' AllReadyH.cons (o := ?o75) (by simp only [List.getElem?_toArray, List.getElem?_cons_succ, List.getElem?_cons_zero]; rfl) (fun K hK => ?s75) ?m75
            rotate_left
            · refine' AllReadyH.cons (o := ?o76) (by simp only [List.getElem?_toArray, List.getElem?_cons_succ, List.getElem?_cons_zero]; rfl) (fun K hK => ?s76) ?m76
              case m76 => exact AllReadyH.nil
              refine step_entryK rfl (.tmp 77) (.tmp 80) 148 rfl 136 3 Tryz.underlying148 keySpot (.int .i64 0) zeroIntV (by rfl) HMX.out (PSpot.mk 2 x.typ ByteArray.empty) (by rfl) _ (cntK_getD _ (PSpot.mk 2 x.typ ByteArray.empty)) ?_
              intro w5 s5 q1 q2 q3 q4
              refine hK.out _ _ ?_ (fun hHeld => ?_)
              · exact (blk_cell ((q3.block _ (blk_lt HXB.out) (by have := HBM.out; have := HSR.out; omega)).trans HXB.out) _).trans rfl
              clear hK K
              try simp only [Act.put, List.setIfInBounds_toArray, List.set_cons_zero, List.set_cons_succ]
              refine' wpAnyH_take (i := 7) (oi := ?o77) (v := _) (by simp only [List.getElem?_toArray, List.getElem?_cons_succ, List.getElem?_cons_zero]; rfl) (by kernel_rfl) (by kernel_rfl) (by kernel_rfl) (fun _ _ _ h => h) (Or.inl ⟨by rfl, ?y77⟩) (by assumption) ?r77
              case y77 =>
                intro wS hSw
                try dsimp only at hSw
                go_simp
                all_goals with_reducible rfl
              simp only [Act.put, List.setIfInBounds_toArray, List.set_cons_zero, List.set_cons_succ]
              refine wpAnyH_ready (rs := [4]) (by kernel_rfl) (by simp) ?_
              refine' AllReadyH.cons (o := ?o78) (by simp only [List.getElem?_toArray, List.getElem?_cons_succ, List.getElem?_cons_zero]; rfl) (fun K hK => ?s78) ?m78
              case m78 => exact AllReadyH.nil
              refine step_lookK rfl (.tmp 77) (.tmp 80) 148 rfl 136 3 Tryz.underlying148 keySpot (.int .i64 0) (zeroIntV _) (by rfl) q1 (PSpot.mk 2 x.typ ByteArray.empty) (by rfl) (.int .i64 ((MM).count (PSpot.mk 2 x.typ ByteArray.empty) : Int)) (by rw [kput_same]; rfl) ?_
              refine hK.out _ _ ?_ (fun hHeld => ?_)
              · exact (blk_cell ((q3.block _ (blk_lt HXB.out) (by have := HBM.out; have := HSR.out; omega)).trans HXB.out) _).trans rfl
              clear hK K
              try simp only [Act.put, List.setIfInBounds_toArray, List.set_cons_zero, List.set_cons_succ]
              refine' wpAnyH_take (i := 5) (oi := ?o79) (v := _) (by simp only [List.getElem?_toArray, List.getElem?_cons_succ, List.getElem?_cons_zero]; rfl) (by kernel_rfl) (by kernel_rfl) (by kernel_rfl) (fun _ _ _ h => h) (Or.inl ⟨by rfl, ?y79⟩) (by assumption) ?r79
              case y79 =>
                intro wS hSw
                try dsimp only at hSw
                go_simp
                all_goals with_reducible rfl
              simp only [Act.put, List.setIfInBounds_toArray, List.set_cons_zero, List.set_cons_succ]
              refine wpAnyH_ready (rs := [8]) (by kernel_rfl) (by simp) ?_
              refine' AllReadyH.cons (o := ?o80) (by simp only [List.getElem?_toArray, List.getElem?_cons_succ, List.getElem?_cons_zero]; rfl) (fun K hK => ?s80) ?m80
              case m80 => exact AllReadyH.nil
              refine step_storeK rfl (.tmp 77) (.tmp 84) (.tmp 82) 148 rfl 136 keySpot (by rfl) q1 (PSpot.mk 2 x.typ ByteArray.empty) s5 (by rfl) q2 (.int .i64 (((MM).count (PSpot.mk 2 x.typ ByteArray.empty) : Int) + 1)) (by simp [Act.eval, HWX.out]) ?_
              intro w6 p1 p3 p4
              rw [kput_twice, ← kput_twice _ _ (.int .i64 0), cntK_step] at p1
              refine hK.out _ _ ?_ (fun hHeld => ?_)
              · exact (blk_cell (((q3.step p3).block _ (blk_lt HXB.out) (by have := HBM.out; have := HSR.out; omega)).trans HXB.out) _).trans rfl
              clear hK K
              try simp only [Act.put]
              refine wpAnyH_done (by kernel_rfl) ?_ _
              refine NoPanic.normal ?_
              have HM6 := Lib.hid p1
              have HD6 := Lib.hid (And.intro (HDX.out.1.step (q3.step p3)) (HDX.out.2.step (q3.step p3)))
              clear q1 q2 q3 q4 p1 p3 p4
              go_wp2
              go_roundg (G.edges.length - (k + 1))
              case measure => omega
              case rel => exact ⟨k + 1, by omega, rfl, by go_num, by rw [HSN.out, if_pos HAT.out]; exact HM6.out.mono (by omega), HD6.out⟩
            refine step_lookK rfl (.tmp 77) (.tmp 80) 148 rfl 136 3 Tryz.underlying148 keySpot (.int .i64 0) (zeroIntV _) (by rfl) HMX.out (PSpot.mk 2 x.typ ByteArray.empty) (by rfl) _ (cntK_getD _ (PSpot.mk 2 x.typ ByteArray.empty)) ?_
            refine hK.out _ _ ?_ (fun hHeld => ?_)
            · exact (blk_cell HXB.out _).trans rfl
            clear hK K
            try simp only [Act.put, List.setIfInBounds_toArray, List.set_cons_zero, List.set_cons_succ]
            refine' wpAnyH_take (i := 5) (oi := ?o81) (v := _) (by simp only [List.getElem?_toArray, List.getElem?_cons_succ, List.getElem?_cons_zero]; rfl) (by kernel_rfl) (by kernel_rfl) (by kernel_rfl) (fun _ _ _ h => h) (Or.inl ⟨by rfl, ?y81⟩) (by assumption) ?r81
            case y81 =>
              intro wS hSw
              try dsimp only at hSw
              go_simp
              all_goals with_reducible rfl
            simp only [Act.put, List.setIfInBounds_toArray, List.set_cons_zero, List.set_cons_succ]
            refine wpAnyH_ready (rs := [6]) (by kernel_rfl) (by simp) ?_
            refine' AllReadyH.cons (o := ?o82) (by simp only [List.getElem?_toArray, List.getElem?_cons_succ, List.getElem?_cons_zero]; rfl) (fun K hK => ?s82) ?m82
            case m82 => exact AllReadyH.nil
            refine step_entryK rfl (.tmp 77) (.tmp 80) 148 rfl 136 3 Tryz.underlying148 keySpot (.int .i64 0) zeroIntV (by rfl) HMX.out (PSpot.mk 2 x.typ ByteArray.empty) (by rfl) _ (cntK_getD _ (PSpot.mk 2 x.typ ByteArray.empty)) ?_
            intro w5 s5 q1 q2 q3 q4
            refine hK.out _ _ ?_ (fun hHeld => ?_)
            · exact (blk_cell ((q3.block _ (blk_lt HXB.out) (by have := HBM.out; have := HSR.out; omega)).trans HXB.out) _).trans rfl
            clear hK K
            try simp only [Act.put, List.setIfInBounds_toArray, List.set_cons_zero, List.set_cons_succ]
            refine' wpAnyH_take (i := 7) (oi := ?o83) (v := _) (by simp only [List.getElem?_toArray, List.getElem?_cons_succ, List.getElem?_cons_zero]; rfl) (by kernel_rfl) (by kernel_rfl) (by kernel_rfl) (fun _ _ _ h => h) (Or.inl ⟨by rfl, ?y83⟩) (by assumption) ?r83
            case y83 =>
              intro wS hSw
              try dsimp only at hSw
              go_simp
              all_goals with_reducible rfl
            simp only [Act.put, List.setIfInBounds_toArray, List.set_cons_zero, List.set_cons_succ]
            refine wpAnyH_ready (rs := [8]) (by kernel_rfl) (by simp) ?_
            refine' AllReadyH.cons (o := ?o84) (by simp only [List.getElem?_toArray, List.getElem?_cons_succ, List.getElem?_cons_zero]; rfl) (fun K hK => ?s84) ?m84
            case m84 => exact AllReadyH.nil
            refine step_storeK rfl (.tmp 77) (.tmp 84) (.tmp 82) 148 rfl 136 keySpot (by rfl) q1 (PSpot.mk 2 x.typ ByteArray.empty) s5 (by rfl) q2 (.int .i64 (((MM).count (PSpot.mk 2 x.typ ByteArray.empty) : Int) + 1)) (by simp [Act.eval, HWX.out]) ?_
            intro w6 p1 p3 p4
            rw [kput_twice, ← kput_twice _ _ (.int .i64 0), cntK_step] at p1
            refine hK.out _ _ ?_ (fun hHeld => ?_)
            · exact (blk_cell (((q3.step p3).block _ (blk_lt HXB.out) (by have := HBM.out; have := HSR.out; omega)).trans HXB.out) _).trans rfl
            clear hK K
            try simp only [Act.put]
            refine wpAnyH_done (by kernel_rfl) ?_ _
            refine NoPanic.normal ?_
            have HM6 := Lib.hid p1
            have HD6 := Lib.hid (And.intro (HDX.out.1.step (q3.step p3)) (HDX.out.2.step (q3.step p3)))
            clear q1 q2 q3 q4 p1 p3 p4
            go_wp2
            go_roundg (G.edges.length - (k + 1))
            case measure => omega
            case rel => exact ⟨k + 1, by omega, rfl, by go_num, by rw [HSN.out, if_pos HAT.out]; exact HM6.out.mono (by omega), HD6.out⟩
          · have b2' : (x.to_ == id) = false := by simpa using ht
            have HAT := Lib.hid (show ¬ atE x id = true by unfold atE; rw [decide_eq_true_eq]; rintro (h | h); exact hf h; exact ht h)
            clear hf ht
            go_wp2
            go_roundg (G.edges.length - (k + 1))
            case measure => omega
            case rel => exact ⟨k + 1, by omega, rfl, by go_num, by rw [HSN.out, if_neg HAT.out]; exact (HMr.out.grow (HXG.out _).1).mono (by omega), HMW.out.1.step (Mod.of_grow (HXG.out _).1), HMW.out.2.step (Mod.of_grow (HXG.out _).1)⟩
      · have hkk : G.edges.take k = G.edges := List.take_of_length_le (by omega)
        rw [hkk] at HMr
        clear hkk hm hmw hm7
        go_wp2
        go_end0
        exact ⟨rfl, by rw [noteG_2 HN.out HHN.out, ← List.append_assoc]; exact HMr.out.mono (by omega), (Mod.of_grow HG4.out).step HMW.out.1⟩
end Go.Hg
