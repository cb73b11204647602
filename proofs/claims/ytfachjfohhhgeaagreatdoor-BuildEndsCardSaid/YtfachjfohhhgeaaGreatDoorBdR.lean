/- hedgerowref15.Broken: Unique; hedgerowref15.Broken: all kinds; Keeps; (*hedgerowref23.Job).Touch; hedgerowkeep.LargeRule, LargeCat, CopyCat; A law's row: nodes, edges, catalogs, opened; Arguments: lists of int64, calls of a job; the laid rule. Conditions: those that each theorem names. -/
import Derived.WalkKit
import Derived.WalkSpells
import Derived.WalkLawsBesides
import Derived.Lib.Hide
import Derived.BigQuiet
import Derived.Deep.LoopGhost
import Derived.Test.YtfachjfohhhgeaaGreatDoorRows
import Derived.Lib.SliceRun
import Derived.WideMake
import Derived.Deep.RegionLaw
import Derived.Lib.Overlaps
import Derived.Deep.RegionHeld3
import Derived.Laws.ResultCell
import Derived.Shelf.SortM.Plain
import Derived.Shelf.SortM.SortNone
import Derived.Shelf.SlicesE.DeleteFunc
import Derived.Maps.OwnOps
import Derived.Maps.OwnSet
import Derived.Carry
import Derived.Lib.SlKeysI
import Derived.Shelf.SlIterI.Nil
import Derived.Conc.LoneCalls
import Derived.Conc.SmallLaws
import Derived.Deep.CutBlock
import Derived.Deep.DeepCutAuto
import Derived.Laws.EntriesVeiled
import Derived.Maps.RangeWalk
import Derived.Lib.SlMapFilter
import Derived.RowKit
import Derived.ReadAgain
import Derived.ChangeOld
import Derived.Deep.Slices
import Derived.OpenShut
import Derived.MakeChecks
import Derived.LaidMore
import Derived.Test.YtfachjfohhhgeaaGreatDoorBdL
import Derived.Test.YtfachjfohhhgeaaGreatDoorBdN
import Derived.Test.YtfachjfohhhgeaaGreatDoorBdO
import Derived.Test.YtfachjfohhhgeaaGreatDoorBdP
import Derived.Test.YtfachjfohhhgeaaGreatDoorBdQ
namespace Go.Hg
open Go.RowKit Go.Proofs

def cntV (N : List PNode) (r : PRule) (v : PVal) (k : Nat) : Nat := ((N.take k).filterMap (valR r)).count v
def dupU (N : List PNode) (r : PRule) (v : PVal) (j k : Nat) : Bool := decide ((if j < k then 1 else 0) < cntV N r v k)
theorem cntV_step {N : List PNode} {r : PRule} {v : PVal} {k : Nat} {y : PNode} (hT : N.take (k + 1) = N.take k ++ [y]) : cntV N r v (k + 1) = cntV N r v k + if valR r y = some v then 1 else 0 := by
  unfold cntV
  rw [hT, List.filterMap_append, List.count_append]
  cases hv : valR r y with
  | none => simp [hv]
  | some u =>
    simp only [List.filterMap_cons_some hv, List.filterMap_nil, List.count_cons, List.count_nil, Nat.zero_add, Option.some.injEq, beq_iff_eq]
theorem cntV_own {N : List PNode} {r : PRule} {v : PVal} {j k : Nat} {x : PNode} (hx : N[j]? = some x) (hv : valR r x = some v) (hk : j < k) : 1 ≤ cntV N r v k := by
  unfold cntV
  refine List.count_pos_iff.2 (List.mem_filterMap.2 ⟨x, ?_, hv⟩)
  obtain ⟨hj, rfl⟩ := List.getElem?_eq_some_iff.1 hx
  exact List.mem_take_iff_getElem.2 ⟨j, by omega, rfl⟩
theorem dupU_step {N : List PNode} {r : PRule} {v : PVal} {j k : Nat} {x y : PNode} (hT : N.take (k + 1) = N.take k ++ [y]) (hx : N[j]? = some x) (hv : valR r x = some v) (hy : N[k]? = some y) :
    dupU N r v j (k + 1) = (dupU N r v j k || (!decide (k = j) && decide (valR r y = some v))) := by
  unfold dupU
  rw [cntV_step hT]
  by_cases hkj : k = j
  · subst hkj
    rw [hx] at hy
    cases hy
    simp [hv]
  · have h1 : j < k → 1 ≤ cntV N r v k := cntV_own hx hv
    by_cases hjk : j < k
    · rw [if_pos (by omega), if_pos hjk]
      have := h1 hjk
      by_cases h2 : valR r y = some v
      · simp only [h2, if_true, hkj, decide_false, decide_true, Bool.not_false, Bool.and_self, Bool.or_true, decide_eq_true_eq]; omega
      · simp [h2]
    · rw [if_neg (by omega), if_neg hjk]
      by_cases h2 : valR r y = some v
      · simp [h2, hkj]
      · simp [h2]
theorem dupU_end {N : List PNode} {r : PRule} {v : PVal} {j : Nat} {x : PNode} (hx : N[j]? = some x) (hv : valR r x = some v) : dupU N r v j N.length = doubR N r x := by
  unfold dupU cntV doubR
  rw [hv, List.take_length, if_pos (List.getElem?_eq_some_iff.1 hx).1]
  simp only
  exact decide_eq_decide.2 (by omega)

set_option maxRecDepth 100000 in
set_option maxHeartbeats 16000000 in
theorem refBrokenUniq (S : Nat → Prop) (nv ev : Value) (N : List PNode) (E : List PEdge) (r : PRule) (w : World) (hn : NodesR S w nv N) (he : EdgesR S w ev E) (hb : N.length ≤ 1099511627776) (hf : formR r = true) (hk : r.kind = 1) :
    Calls Tryz.prog 48 #[nv, ev, r.args] w (RBrkPost N E r w) := by
  have HF := Lib.hid hf; have HK := Lib.hid hk; have HBD := Lib.hid hb
  have HW := Lib.hid (show ∀ o1, Grow w (w.alloc o1) from fun o1 => (Grow.rfl' w).allocd o1)
  obtain ⟨_, _, rfl, _⟩ := SlR.open he
  obtain ⟨ae, ce, rfl, hel, hec, hE⟩ := SlR.open hn
  unfold maxLen at hec
  have HE := Lib.hid (show ∀ (j : Nat) (hj : j < N.length), ∃ ba oa pv, ae = some ⟨ba, oa, none⟩ ∧ ∀ w', Grow w w' → ba < w'.heap.size ∧ w'.cell? ⟨ba, oa + j * 3, none⟩ = some (.int .i64 N[j].id) ∧ w'.cell? ⟨ba, oa + j * 3 + 1, none⟩ = some (.string N[j].typ) ∧ w'.cell? ⟨ba, oa + j * 3 + 2, none⟩ = some pv ∧ PropsR S w' pv N[j].props from fun j hj => by
    obtain ⟨ba, oa', ra, rfl, hSa, hba, hRa, hca⟩ := hE j N[j] (List.getElem?_eq_getElem hj)
    obtain ⟨pva, h1, h2, h3, h4, h5⟩ := hRa.at hba (Grow.rfl' w) hca
    refine ⟨ba, oa', pva, rfl, fun w' g => ⟨Nat.lt_of_lt_of_le h1 g.size, ?_, ?_, ?_, h5.grow g⟩⟩
    · exact (g.cell (p := ⟨_, _, none⟩) hba).trans h2
    · exact (g.cell (p := ⟨_, _, none⟩) hba).trans h3
    · exact (g.cell (p := ⟨_, _, none⟩) hba).trans h4)
  clear hf hk hb hn he hE
  go_enter Tryz.func48, Tryz.ntmps48
  go_wp2_with fail
  refine (refForm r _).mono ?_
  rintro e w2 ⟨rfl, g2⟩
  have HG2 := Lib.hid ((HW.out _).step g2)
  have HRB := Lib.hid (ruleBoxNew w r w2 g2)
  obtain ⟨hrl, c1, c2, c3, c4, c5, c6, c7, c0⟩ := HRB.out.cells
  rw [HF.out]
  rw [HK.out] at c1
  have HI0 := Lib.hid (IdsW.nil w2.heap.size w2)
  clear g2
  go_wp2
  clear c1 c2 c3 c4 c5 c6 c7 c0
  go_loopg [7, 8] N.length (fun g lv i wr => ∃ j : Nat, j ≤ N.length ∧ g = N.length - j ∧ i = .int .i64 j ∧ IdsW w2.heap.size wr lv (((N.take j).filter (doubR N r)).map (·.id)) ∧ Grow w2 wr)
  case atStart => exact ⟨0, by omega, by omega, rfl, HI0.out, Grow.rfl' w2⟩
  case round =>
    obtain ⟨j, hj, rfl, rfl, hi, hz⟩ := hrel
    obtain ⟨oa, co, rfl, _, _⟩ := hi.isSlice
    have HI := Lib.hid hi; have HZ := Lib.hid hz
    clear hi hz
    by_cases hjl : j < N.length
    · obtain ⟨ba, oa', pv, rfl, hXj⟩ := HE.out j hjl
      have HX := Lib.hid hXj
      clear hXj
      have HE1 := Lib.hid (show ∀ (k : Nat) (hk : k < N.length), ∃ pv, ∀ w', Grow w w' → ba < w'.heap.size ∧ w'.cell? ⟨ba, oa' + k * 3, none⟩ = some (.int .i64 N[k].id) ∧ w'.cell? ⟨ba, oa' + k * 3 + 1, none⟩ = some (.string N[k].typ) ∧ w'.cell? ⟨ba, oa' + k * 3 + 2, none⟩ = some pv ∧ PropsR S w' pv N[k].props from fun k hk => by
        obtain ⟨b1, o1, pv1, h1, h2⟩ := HE.out k hk
        cases h1
        exact ⟨pv1, h2⟩)
      have HT := Lib.hid (show N.take (j + 1) = N.take j ++ [N[j]] from List.take_succ_eq_append_getElem hjl)
      have HXE := Lib.hid (show N[j]? = some N[j] from List.getElem?_eq_getElem hjl)
      have HLE := Lib.hid (show (((N.take j).filter (doubR N r)).map (·.id)).length ≤ N.length by
        rw [List.length_map]
        exact Nat.le_trans (List.length_filter_le _ _) (by rw [List.length_take]; omega))
      generalize N[j] = x at *
      obtain ⟨gv, hgv⟩ : ∃ gv, getV x.props r.name = gv := ⟨_, rfl⟩
      obtain ⟨bt, hbt⟩ : ∃ b, decide (x.typ = r.typ) = b := ⟨_, rfl⟩
      obtain ⟨bo, hbo⟩ : ∃ b, (getP x.props r.name).isSome = b := ⟨_, rfl⟩
      have HVR := Lib.hid (show valR r x = if (bo && bt) = true then some gv else none by rw [valR_eq, hgv, hbo, hbt])
      have HBO := Lib.hid hbo; have HGV := Lib.hid hgv
      clear hbo hgv
      obtain ⟨bd, hbd⟩ : ∃ b, doubR N r x = b := ⟨_, rfl⟩
      generalize hfl : ((N.take j).filter (doubR N r)).map (·.id) = fl at *
      have HFF := Lib.hid hfl
      have HBD2 := Lib.hid hbd
      clear hfl hbd
      have HD := Lib.hid (filt_snoc (·.id) HT.out HFF.out HBD2.out)
      have HWR := Lib.hid (HG2.out.step HZ.out)
      obtain ⟨hal, a0, a1, a2, _⟩ := HX.out wr HWR.out
      obtain ⟨hrl', c1, c2, c3, c4, c5, c6, c7, c0⟩ := (HRB.out.grow HZ.out).cells
      clear c1 c4 c5 c6 c7 c0
      have HNO := Lib.hid (show ∀ (w4 : World), Grow wr w4 → Grow w2 w4 ∧ IdsW w2.heap.size w4 (.slice oa fl.length co) fl from fun w4 h => ⟨HZ.out.step h, HI.out.grow h⟩)
      have HYES := Lib.hid (show ∀ (w4 : World), Grow wr w4 → ∀ o1, Grow w2 (w4.alloc o1) ∧ IdsW w2.heap.size (w4.alloc o1) (.slice oa fl.length co) fl from fun w4 h o1 => ⟨(HZ.out.step h).allocd o1, (HI.out.grow h).grow ((Grow.rfl' w4).allocd o1)⟩)
      cases bt
      · obtain rfl : bd = false := by rw [← HBD2.out]; unfold doubR; rw [HVR.out]; simp
        go_wp2_with fail
        refine wp_region_grow (by kernel_rfl) (by kernel_rfl) ?_
        repeat (go_big_quiet_step (fail))
        refine wpQuiet_nil ?_
        intro w4 hw4
        go_wp2_with fail
        go_roundg (N.length - (j + 1))
        case measure => omega
        case rel => exact ⟨j + 1, by omega, rfl, by go_num, by rw [HD.out, if_neg (by simp)]; exact (HNO.out _ hw4).2, (HNO.out _ hw4).1⟩
      · go_wp2_with fail
        refine wp_region_grow (by kernel_rfl) (by kernel_rfl) ?_
        repeat (go_big_quiet_step (fail))
        refine wpQuiet_nil ?_
        intro w4 hw4
        have HW4 := Lib.hid hw4
        clear a0 a1 a2 hal hw4 c2 c3 hrl'
        have HS := Lib.hid (show ∀ w', Grow w4 w' → w'.cell? ⟨ba, oa' + j * 3 + 2, none⟩ = some pv ∧ w'.cell? ⟨w.heap.size, 3, none⟩ = some (.string r.name) from fun w' g =>
          ⟨(HX.out w' ((HWR.out.step HW4.out).step g)).2.2.2.1, (HRB.out.grow ((HZ.out.step HW4.out).step g)).cells.2.2.2.1⟩)
        have HPR := Lib.hid (show ∀ w', Grow w4 w' → PropsR S w' pv x.props from fun w' g => (HX.out w' ((HWR.out.step HW4.out).step g)).2.2.2.2)
        have HDR := Lib.hid (show ∀ o1, Grow w4 (w4.alloc o1).drew ∧ (w4.alloc o1).drew.heap[w4.heap.size]? = some o1 from fun o1 => ⟨((Grow.rfl' w4).allocd o1).drewd, heap_alloc_new w4 o1⟩)
        have HD0 := Lib.hid (show Grow w4 w4.drew from (Grow.rfl' w4).drewd)
        go_upto_region 11 with fail
        go_cut [9] (fun s wx => ∃ B : Nat, s = .pointer (some ⟨B, 0, none⟩) ∧ wx.heap[B]? = some (foundBox gv bo) ∧ Grow w4 wx)
        case first =>
          go_region_held3 (fun w' => w'.cell? ⟨ba, oa' + j * 3 + 2, none⟩ = some pv ∧ w'.cell? ⟨w.heap.size, 3, none⟩ = some (.string r.name)) (first | exact HS.out _ HD0.out | exact HS.out _ (HDR.out _).1 | exact HS.out _ HG5.out | exact HS.out _ (HG5.out.allocd _) | exact HS.out _ (set4_grow HG5.out (Nat.le_refl _) _ _ _ _)) (first | (go_at_call 81; refine (refGet S pv x.props r.name _ (HPR.out _ HD0.out)).mono ?_; rintro e w5 ⟨rfl, hg5⟩; rw [HGV.out, HBO.out]; have HG5 := Lib.hid (HD0.out.step hg5); clear hg5) | (go_at_call 81; refine (refGet S pv x.props r.name _ (HPR.out _ (HDR.out _).1)).mono ?_; rintro e w5 ⟨rfl, hg5⟩; rw [HGV.out, HBO.out]; have hnb := (hg5.heapEq (by simp)).trans (HDR.out _).2; have z0 : w5.cell? ⟨w4.heap.size, 0, none⟩ = some (.int .i64 0) := (blk_cell hnb _).trans rfl; have z1 : w5.cell? ⟨w4.heap.size, 1, none⟩ = some (.int .i64 0) := (blk_cell hnb _).trans rfl; have z2 : w5.cell? ⟨w4.heap.size, 2, none⟩ = some (.string ⟨#[]⟩) := (blk_cell hnb _).trans rfl; have z3 : w5.cell? ⟨w4.heap.size, 3, none⟩ = some (.bool false) := (blk_cell hnb _).trans rfl; have zf0 := blk_free hnb 0; have zf1 := blk_free hnb 1; have zf2 := blk_free hnb 2; have zf3 := blk_free hnb 3; have hnl := blk_lt hnb; have HNB := Lib.hid hnb; have HG5 := Lib.hid ((HDR.out _).1.step hg5); clear hg5 hnb))
          · go_wp2_with fail
            go_meet
            exact ⟨w5.heap.size, rfl, heap_alloc_new w5 _, HG5.out.allocd _⟩
          · go_wp2_with fail
            go_meet
            exact ⟨w4.heap.size, rfl, set4_box HNB.out _ _ _ _, set4_grow HG5.out (Nat.le_refl _) _ _ _ _⟩
        case rest =>
          obtain ⟨B, rfl, hB6, hG6⟩ := hcut
          obtain ⟨w6, rfl⟩ : ∃ w6, w6 = wc := ⟨_, rfl⟩
          have HB6 := Lib.hid hB6; have HG6 := Lib.hid hG6
          have hbl := blk_lt hB6
          have d3 : w6.cell? ⟨B, 3, none⟩ = some (.bool bo) := (blk_cell hB6 _).trans rfl
          have HW6 := Lib.hid (HW4.out.step hG6)
          clear hB6 hG6 HS HPR HDR HD0
          obtain ⟨hrl6, c1, c2, c3, c4, c5, c6, c7, c0⟩ := (HRB.out.grow (HZ.out.step HW6.out)).cells
          rw [HK.out] at c1
          clear c2 c3 c4 c5 c6 c7 c0
          cases bo
          · obtain rfl : bd = false := by rw [← HBD2.out]; unfold doubR; rw [HVR.out]; simp
            go_wp2
            go_loopg [10, 11] 0 (fun g bv kv wr => g = 0 ∧ bv = .bool false ∧ kv = .int .i64 0 ∧ wr = w6)
            case atStart => exact ⟨rfl, rfl, rfl, rfl⟩
            case round =>
              obtain ⟨rfl, rfl, rfl, rfl⟩ := hrel
              have hz0 : (0 : Nat) < N.length := by omega
              go_wp2_with fail
              go_roundg (N.length - (j + 1))
              case measure => omega
              case rel => exact ⟨j + 1, by omega, rfl, by go_num, by rw [HD.out, if_neg (by simp)]; exact (HNO.out _ HW6.out).2, (HNO.out _ HW6.out).1⟩
          · have HVS := Lib.hid (show valR r x = some gv by rw [HVR.out]; rfl)
            have HD0' := Lib.hid (show false = dupU N r gv j 0 by simp [dupU, cntV])
            obtain ⟨wo, rfl⟩ : ∃ wo, wo = wr := ⟨_, rfl⟩
            go_wp2
            go_loopg [10, 11] N.length (fun g bv kv wr => ∃ (k : Nat) (bb : Bool), k ≤ N.length ∧ g = N.length - k ∧ kv = .int .i64 k ∧ bv = .bool bb ∧ bb = dupU N r gv j k ∧ Grow w6 wr)
            case atStart => exact ⟨0, false, by omega, by omega, rfl, rfl, HD0'.out, Grow.rfl' w6⟩
            case round =>
              obtain ⟨k, bb, hk, rfl, rfl, rfl, hbb, hgo⟩ := hrel
              have HBB := Lib.hid hbb; have HGO := Lib.hid hgo
              have hB6 := (hgo.heapEq (blk_lt HB6.out)).trans HB6.out
              have hbl := blk_lt hB6
              have d3 : wr.cell? ⟨B, 3, none⟩ = some (.bool true) := (blk_cell hB6 _).trans rfl
              have HW8 := Lib.hid (HW6.out.step hgo)
              have HB8 := Lib.hid hB6
              clear hbb hgo hB6
              by_cases hkl : k < N.length
              · obtain ⟨qv, hXk⟩ := HE1.out k hkl
                have HXK := Lib.hid hXk
                clear hXk
                have HTK := Lib.hid (show N.take (k + 1) = N.take k ++ [N[k]] from List.take_succ_eq_append_getElem hkl)
                have HYE := Lib.hid (show N[k]? = some N[k] from List.getElem?_eq_getElem hkl)
                generalize N[k] = y at *
                have HST := Lib.hid (dupU_step HTK.out HXE.out HVS.out HYE.out)
                obtain ⟨gy, hgy⟩ : ∃ gv, getV y.props r.name = gv := ⟨_, rfl⟩
                obtain ⟨bt2, hbt2⟩ : ∃ b, decide (y.typ = r.typ) = b := ⟨_, rfl⟩
                obtain ⟨bo2, hbo2⟩ : ∃ b, (getP y.props r.name).isSome = b := ⟨_, rfl⟩
                obtain ⟨bz, hbz⟩ : ∃ b, (cmpV gv gy == 0) = b := ⟨_, rfl⟩
                obtain ⟨by2, hby⟩ : ∃ b, decide (valR r y = some gv) = b := ⟨_, rfl⟩
                have HST3 := Lib.hid (show by2 = (bt2 && (bo2 && bz)) by
                  rw [← hby, valR_eq, hgy, hbo2, hbt2, ← hbz, int_beq, cmpV_zero]
                  by_cases h : gv = gy
                  · subst h; cases bo2 <;> cases bt2 <;> simp
                  · cases bo2 <;> cases bt2 <;> simp [h, eq_comm])
                rw [hby] at HST
                rw [← HBB.out] at HST
                have HBO2 := Lib.hid hbo2; have HGY := Lib.hid hgy
                clear hbo2 hgy hby
                have HW9 := Lib.hid (HWR.out.step HW8.out)
                have HS := Lib.hid (show ∀ w', Grow wr w' → w'.cell? ⟨ba, oa' + k * 3 + 2, none⟩ = some qv ∧ w'.cell? ⟨w.heap.size, 3, none⟩ = some (.string r.name) from fun w' g =>
                  ⟨(HXK.out w' (HW9.out.step g)).2.2.2.1, (HRB.out.grow ((HZ.out.step HW8.out).step g)).cells.2.2.2.1⟩)
                have HPR := Lib.hid (show ∀ w', Grow wr w' → PropsR S w' qv y.props from fun w' g => (HXK.out w' (HW9.out.step g)).2.2.2.2)
                clear hrl6 c1
                have HDR := Lib.hid (show ∀ o1, Grow wr (wr.alloc o1).drew ∧ (wr.alloc o1).drew.heap[wr.heap.size]? = some o1 from fun o1 => ⟨((Grow.rfl' wr).allocd o1).drewd, heap_alloc_new wr o1⟩)
                have HD0 := Lib.hid (show Grow wr wr.drew from (Grow.rfl' wr).drewd)
                go_upto_region 18 with fail
                go_cut [12] (fun s wx => ∃ B : Nat, s = .pointer (some ⟨B, 0, none⟩) ∧ wx.heap[B]? = some (foundBox gy bo2) ∧ Grow wr wx)
                case first =>
                  go_region_held3 (fun w' => w'.cell? ⟨ba, oa' + k * 3 + 2, none⟩ = some qv ∧ w'.cell? ⟨w.heap.size, 3, none⟩ = some (.string r.name)) (first | exact HS.out _ HD0.out | exact HS.out _ (HDR.out _).1 | exact HS.out _ HG5.out | exact HS.out _ (HG5.out.allocd _) | exact HS.out _ (set4_grow HG5.out (Nat.le_refl _) _ _ _ _)) (first | (go_at_call 81; refine (refGet S qv y.props r.name _ (HPR.out _ HD0.out)).mono ?_; rintro e w5 ⟨rfl, hg5⟩; rw [HGY.out, HBO2.out]; have HG5 := Lib.hid (HD0.out.step hg5); clear hg5) | (go_at_call 81; refine (refGet S qv y.props r.name _ (HPR.out _ (HDR.out _).1)).mono ?_; rintro e w5 ⟨rfl, hg5⟩; rw [HGY.out, HBO2.out]; have hnb := (hg5.heapEq (by simp)).trans (HDR.out _).2; have z0 : w5.cell? ⟨wr.heap.size, 0, none⟩ = some (.int .i64 0) := (blk_cell hnb _).trans rfl; have z1 : w5.cell? ⟨wr.heap.size, 1, none⟩ = some (.int .i64 0) := (blk_cell hnb _).trans rfl; have z2 : w5.cell? ⟨wr.heap.size, 2, none⟩ = some (.string ⟨#[]⟩) := (blk_cell hnb _).trans rfl; have z3 : w5.cell? ⟨wr.heap.size, 3, none⟩ = some (.bool false) := (blk_cell hnb _).trans rfl; have zf0 := blk_free hnb 0; have zf1 := blk_free hnb 1; have zf2 := blk_free hnb 2; have zf3 := blk_free hnb 3; have hnl := blk_lt hnb; have HNB := Lib.hid hnb; have HG5 := Lib.hid ((HDR.out _).1.step hg5); clear hg5 hnb))
                  · go_wp2_with fail
                    go_meet
                    exact ⟨w5.heap.size, rfl, heap_alloc_new w5 _, HG5.out.allocd _⟩
                  · go_wp2_with fail
                    go_meet
                    exact ⟨wr.heap.size, rfl, set4_box HNB.out _ _ _ _, set4_grow HG5.out (Nat.le_refl _) _ _ _ _⟩
                case rest =>
                  obtain ⟨B2, rfl, hB7, hG7⟩ := hcut
                  obtain ⟨w8, rfl⟩ : ∃ w8, w8 = wc := ⟨_, rfl⟩
                  have HG6i := Lib.hid (HGO.out.step hG7)
                  have hbl2 := blk_lt hB7
                  have e3 : w8.cell? ⟨B2, 3, none⟩ = some (.bool bo2) := (blk_cell hB7 _).trans rfl
                  have e0 : w8.cell? ⟨B2, 0, none⟩ = some (.int .i64 gy.kind) := (blk_cell hB7 _).trans rfl
                  have e1 : w8.cell? ⟨B2, 1, none⟩ = some (.int .i64 gy.n) := (blk_cell hB7 _).trans rfl
                  have e2 : w8.cell? ⟨B2, 2, none⟩ = some (.string gy.s) := (blk_cell hB7 _).trans rfl
                  have hB9 := (hG7.heapEq (blk_lt HB8.out)).trans HB8.out
                  have hbl := blk_lt hB9
                  have d0 : w8.cell? ⟨B, 0, none⟩ = some (.int .i64 gv.kind) := (blk_cell hB9 _).trans rfl
                  have d1 : w8.cell? ⟨B, 1, none⟩ = some (.int .i64 gv.n) := (blk_cell hB9 _).trans rfl
                  have d2 : w8.cell? ⟨B, 2, none⟩ = some (.string gv.s) := (blk_cell hB9 _).trans rfl
                  obtain ⟨hal, _, a1, _, _⟩ := HXK.out w8 (HW9.out.step hG7)
                  obtain ⟨hrl8, c1, c2, c3, c4, c5, c6, c7, c0⟩ := (HRB.out.grow ((HZ.out.step HW8.out).step hG7)).cells
                  clear hB7 hG7 HS HPR HDR HD0 c1 c3 c4 c5 c6 c7 c0 hB9
                  cases bb
                  · by_cases hkj : k = j
                    · have HST2 := Lib.hid (show (false || (!decide (k = j) && by2)) = false by simp [hkj])
                      clear HST3
                      subst hkj
                      go_wp2_with fail
                      refine wp_region_grow (by kernel_rfl) (by kernel_rfl) ?_
                      repeat (go_big_quiet_step (fail))
                      refine wpQuiet_nil ?_
                      intro w9 hw9
                      go_wp2_with fail
                      go_roundg (N.length - (k + 1))
                      case measure => omega
                      case rel => exact ⟨k + 1, false, by omega, rfl, by go_num, rfl, by rw [HST.out]; exact HST2.out.symm, (HG6i.out).step hw9⟩
                    · have hkb : (k == j) = false := by simpa using hkj
                      have hkb2 : ((k : Int) == (j : Int)) = false := by rw [int_beq]; exact decide_eq_false (by omega)
                      have hkb3 : ((k : Int) != (j : Int)) = true := by unfold bne; rw [hkb2]; rfl
                      have hkb4 : (k != j) = true := by unfold bne; rw [hkb]; rfl
                      have HKJ := Lib.hid hkj
                      cases bt2
                      · have HST2 := Lib.hid (show (false || (!decide (k = j) && by2)) = false by rw [HST3.out]; simp)
                        go_wp2_with fail
                        refine wp_region_grow (by kernel_rfl) (by kernel_rfl) ?_
                        repeat (go_big_quiet_step (fail))
                        refine wpQuiet_nil ?_
                        intro w9 hw9
                        go_wp2_with fail
                        go_roundg (N.length - (k + 1))
                        case measure => omega
                        case rel => exact ⟨k + 1, false, by omega, rfl, by go_num, rfl, by rw [HST.out]; exact HST2.out.symm, (HG6i.out).step hw9⟩
                      · cases bo2
                        · have HST2 := Lib.hid (show (false || (!decide (k = j) && by2)) = false by rw [HST3.out]; simp)
                          go_wp2_with fail
                          refine wp_region_grow (by kernel_rfl) (by kernel_rfl) ?_
                          repeat (go_big_quiet_step (fail))
                          refine wpQuiet_nil ?_
                          intro w9 hw9
                          go_wp2_with fail
                          go_roundg (N.length - (k + 1))
                          case measure => omega
                          case rel => exact ⟨k + 1, false, by omega, rfl, by go_num, rfl, by rw [HST.out]; exact HST2.out.symm, (HG6i.out).step hw9⟩
                        · have HST2 := Lib.hid (show (false || (!decide (k = j) && by2)) = bz by rw [HST3.out, decide_eq_false HKJ.out]; simp)
                          go_wp2_with fail
                          refine wp_region_grow (by kernel_rfl) (by kernel_rfl) ?_
                          repeat (go_big_quiet_step (exact calls_gr (refCompare gv gy _)))
                          refine wpQuiet_nil ?_
                          intro w9 hw9
                          go_wp2_with fail
                          go_roundg (N.length - (k + 1))
                          case measure => omega
                          case rel => exact ⟨k + 1, bz, by omega, rfl, by go_num, rfl, by rw [HST.out]; exact HST2.out.symm, (HG6i.out).step hw9⟩
                  · have HST2 := Lib.hid (show (true || (!decide (k = j) && by2)) = true by simp)
                    clear HST3
                    go_wp2_with fail
                    refine wp_region_grow (by kernel_rfl) (by kernel_rfl) ?_
                    repeat (go_big_quiet_step (fail))
                    refine wpQuiet_nil ?_
                    intro w9 hw9
                    go_wp2_with fail
                    go_roundg (N.length - (k + 1))
                    case measure => omega
                    case rel => exact ⟨k + 1, true, by omega, rfl, by go_num, rfl, by rw [HST.out]; exact HST2.out.symm, (HG6i.out).step hw9⟩
              · have hkk : k = N.length := by omega
                have HEND := Lib.hid (dupU_end HXE.out HVS.out)
                obtain rfl : bb = bd := by rw [HBB.out, hkk, HEND.out, HBD2.out]
                obtain ⟨hal, a0, _, _, _⟩ := HX.out wr (HWR.out.step HW8.out)
                have hzs := (HNO.out _ HW8.out).1.size
                clear hkk
                cases bb
                · go_wp2_with fail
                  go_roundg (N.length - (j + 1))
                  case measure => omega
                  case rel => exact ⟨j + 1, by omega, rfl, by go_num, by rw [HD.out, if_neg (by simp)]; exact (HNO.out _ HW8.out).2, (HNO.out _ HW8.out).1⟩
                · go_wp2_with (at_builtin; go_must (refine wpList_append_I rfl (.tmp 101) (.tmp 107) 25 rfl Tryz.underlying25 w2.heap.size _ fl rfl (HYES.out _ HW8.out _).2 x.id _ rfl (rd1 _ _ _ (by simp)) (by simp; omega) (by have := HLE.out; have := HBD.out; omega) ?_))
                  intro v5 w7 k1 k2 k3
                  have H5 := Lib.hid k1; have HG7 := Lib.hid ((HYES.out _ HW8.out _).1.since k2 (Nat.le_refl _))
                  clear k1 k2 k3
                  go_wp2
                  go_roundg (N.length - (j + 1))
                  case measure => omega
                  case rel => exact ⟨j + 1, by omega, rfl, by go_num, by rw [HD.out, if_pos (by simp)]; exact H5.out, HG7.out⟩
    · have hkk : N.take j = N := List.take_of_length_le (by omega)
      rw [hkk] at HI
      simp only [hkk]
      have HR := Lib.hid (RBrkPost.of (N := N) (E := E) (r := r) ⟨fun h => absurd h (by rw [HF.out]; simp), fun _ => by unfold BrkR; rw [if_pos HK.out]⟩ (by have := HK.out; omega) HI.out HG2.out HZ.out)
      clear hkk
      go_wp2
      go_ret
      exact HR.out
end Go.Hg

namespace Go.Hg
open Go.RowKit Go.Proofs

theorem refBroken (S : Nat → Prop) (nv ev : Value) (N : List PNode) (E : List PEdge) (r : PRule) (w : World) (hn : NodesR S w nv N) (he : EdgesR S w ev E) (hb : N.length ≤ 1099511627776) (hb2 : E.length ≤ 1099511627776) :
    Calls Tryz.prog 48 #[nv, ev, r.args] w (RBrkPost N E r w) := by
  cases hf : formR r with
  | false => exact refBrokenNo nv ev N E r w hf
  | true =>
    rcases formR_kind hf with hk | hk | hk | hk
    · exact refBrokenUniq S nv ev N E r w hn he hb hf hk
    · exact refBrokenExists S nv ev N E r w hn he hb hf hk
    · exact refBrokenEnds S nv ev N E r w hn he hb2 hf hk
    · exact refBrokenMost S nv ev N E r w hn he hb2 hf hk
theorem RBrk.nil_iff {N : List PNode} {E : List PEdge} {r : PRule} {L : List Int} (h : RBrk N E r L) (hf : formR r = true) : keepR N E r = decide (L = []) := by
  by_cases hk : r.kind = 4
  · have h1 := h.2 hf
    rw [if_pos hk] at h1
    have h2 : BrokenR N E r (L.mergeSort fun x y => decide (x ≤ y)) := ⟨fun h => absurd h (by rw [hf]; simp), fun _ => by
      unfold BrkR
      rw [if_neg (by omega), if_neg (by omega), if_neg (by omega)]
      exact rset_sorted h1.1 h1.2⟩
    rw [h2.nil_iff hf]
    have hp := List.mergeSort_perm L (fun x y => decide (x ≤ y))
    refine decide_eq_decide.2 ⟨fun e => ?_, fun e => ?_⟩
    · rw [e] at hp; exact hp.symm.eq_nil
    · rw [e] at hp ⊢; exact hp.eq_nil
  · have h2 : BrokenR N E r L := ⟨h.1, fun hf => by have := h.2 hf; rwa [if_neg hk] at this⟩
    exact h2.nil_iff hf

set_option maxRecDepth 100000 in
set_option maxHeartbeats 1000000 in
theorem ref15Keeps (S : Nat → Prop) (nv ev : Value) (N : List PNode) (E : List PEdge) (r : PRule) (w : World) (hn : NodesR S w nv N) (he : EdgesR S w ev E) (hb : N.length ≤ 1099511627776) (hb2 : E.length ≤ 1099511627776) :
    Calls Tryz.prog 17 #[nv, ev, r.args] w fun e w' => e = .returned (.bool (keepR N E r)) ∧ Grow w w' := by
  have HN := Lib.hid hn; have HE := Lib.hid he; have HB := Lib.hid hb; have HB2 := Lib.hid hb2
  obtain ⟨_, _, rfl, _⟩ := SlR.open hn
  obtain ⟨_, _, rfl, _⟩ := SlR.open he
  have HW := Lib.hid (show ∀ o1, Grow w (w.alloc o1) from fun o1 => (Grow.rfl' w).allocd o1)
  have HRN := Lib.hid (fun w' => ruleBoxNew w r w')
  have HFR := Lib.hid (show ∀ L, RBrk N E r L → formR r = true → keepR N E r = decide (L = []) from fun L h hf => h.nil_iff hf)
  have HFN := Lib.hid (show formR r = false → keepR N E r = false from fun h => by unfold keepR; rw [h]; rfl)
  clear hn he hb hb2
  obtain ⟨bf, hbf⟩ : ∃ b, formR r = b := ⟨_, rfl⟩
  have HBF := Lib.hid hbf
  clear hbf
  cases bf
  · go_enter Tryz.func17, Tryz.ntmps17
    go_wp2_with fail
    refine (refForm r _).mono ?_
    rintro e w2 ⟨rfl, g2⟩
    rw [HBF.out]
    have HG2 := Lib.hid ((HW.out _).step g2)
    clear g2
    go_wp2
    go_ret
    exact ⟨by rw [HFN.out HBF.out]; rfl, HG2.out⟩
  · go_enter Tryz.func17, Tryz.ntmps17
    go_wp2_with fail
    refine (refForm r _).mono ?_
    rintro e w2 ⟨rfl, g2⟩
    rw [HBF.out]
    have HG2 := Lib.hid ((HW.out _).step g2)
    obtain ⟨hrl, c1, c2, c3, c4, c5, c6, c7, c0⟩ := (HRN.out w2 g2).cells
    clear g2
    go_wp2_with fail
    refine (refBroken S _ _ N E r w2 (HN.out.grow HG2.out) (HE.out.grow HG2.out) HB.out HB2.out).mono ?_
    rintro e w3 ⟨v, L, rfl, hL, hv, hg3⟩
    obtain ⟨oa, co, rfl, _, _⟩ := hv.isSlice
    have HK := Lib.hid (HFR.out L hL HBF.out)
    have HG3 := Lib.hid (HG2.out.step hg3)
    clear hL hv hg3 c1 c2 c3 c4 c5 c6 c7 c0
    cases L with
    | nil =>
      go_wp2
      go_ret
      exact ⟨by rw [HK.out]; rfl, HG3.out⟩
    | cons a t =>
      go_wp2
      go_ret
      exact ⟨by rw [HK.out]; rfl, HG3.out⟩
end Go.Hg

namespace Go.Hg
open Go.RowKit Go.Proofs

theorem rowInt64 : RowT Tryz.prog 2 1 8 := RowT.of infoInt rfl (by omega)
theorem one1I64 (n : Int) : ∀ u ∈ [Value.int .i64 n], u.oneCell' = true := by
  intro u hu
  rw [List.mem_singleton] at hu
  subst hu
  rfl
theorem idOk64 (x : Int) (r : List Value) (h : r = [Value.int .i64 x]) : r.length = 1 ∧ ∀ u ∈ r, u.oneCell' = true := by
  subst h
  exact ⟨rfl, one1I64 x⟩
end Go.Hg

namespace Go.Hg
open Go.RowKit Go.Proofs

set_option maxRecDepth 100000 in
set_option maxHeartbeats 1000000 in
theorem keepLargeRule (x : PRule) (w : World) : Calls Tryz.prog 10 #[x.args] w fun e w' => ∃ b, e = .returned (.bool b) ∧ Grow w w' := by
  have HW := Lib.hid (show ∀ o1, Grow w (w.alloc o1) from fun o1 => (Grow.rfl' w).allocd o1)
  cases q1 : decide ((1000 : Int) < (x.typ.size : Int))
  rotate_left
  · go_enter Tryz.func10, Tryz.ntmps10
    go_wp2
    go_ret
    exact ⟨_, rfl, HW.out _⟩
  cases q2 : decide ((1000 : Int) < (x.name.size : Int))
  rotate_left
  · go_enter Tryz.func10, Tryz.ntmps10
    go_wp2
    go_ret
    exact ⟨_, rfl, HW.out _⟩
  cases q3 : decide ((1000 : Int) < (x.from_.size : Int))
  rotate_left
  · go_enter Tryz.func10, Tryz.ntmps10
    go_wp2
    go_ret
    exact ⟨_, rfl, HW.out _⟩
  · go_enter Tryz.func10, Tryz.ntmps10
    go_wp2
    go_ret
    exact ⟨_, rfl, HW.out _⟩

end Go.Hg

namespace Go.Hg
open Go.RowKit Go.ChangeShapes Go.WideShapes Go.Deep Go.Proofs

section
variable {H : Type} {enc : TypeId × Value → H} {W : World} {base : Nat} {sp : Nat → Bool} {held : Bool}
theorem openRule {n : Nat} {cs : List Value} {x : DataW H × List MemPlace} (h : DataW.trod enc Tryz.prog W base sp held n 23 cs = some x) : ∃ o : PRule, RRule o cs := by
  obtain ⟨xs, m, -, -, hl, hsz, hf⟩ := DataW.trod_struct Tryz.underlying23 h
  rw [cellsRule] at hl
  obtain ⟨c0, c1, c2, c3, c4, c5, c6, c7, rfl⟩ := list8 hl
  obtain ⟨y0, h0⟩ := field_at hsz hf 0 rfl rfl cellsI rfl
  obtain ⟨y1, h1⟩ := field_at hsz hf 1 rfl rfl cellsI rfl
  obtain ⟨y2, h2⟩ := field_at hsz hf 2 rfl rfl cellsStr rfl
  obtain ⟨y3, h3⟩ := field_at hsz hf 3 rfl rfl cellsStr rfl
  obtain ⟨y4, h4⟩ := field_at hsz hf 4 rfl rfl cellsStr rfl
  obtain ⟨y5, h5⟩ := field_at hsz hf 5 rfl rfl cellsStr rfl
  obtain ⟨y6, h6⟩ := field_at hsz hf 6 rfl rfl cellsI rfl
  obtain ⟨y7, h7⟩ := field_at hsz hf 7 rfl rfl cellsI rfl
  obtain ⟨a0, e0, -⟩ := DataW.trod_int Tryz.underlying3 h0
  obtain ⟨a1, e1, -⟩ := DataW.trod_int Tryz.underlying3 h1
  obtain ⟨a2, e2, -⟩ := DataW.trod_string Tryz.underlying9 h2
  obtain ⟨a3, e3, -⟩ := DataW.trod_string Tryz.underlying9 h3
  obtain ⟨a4, e4, -⟩ := DataW.trod_string Tryz.underlying9 h4
  obtain ⟨a5, e5, -⟩ := DataW.trod_string Tryz.underlying9 h5
  obtain ⟨a6, e6, -⟩ := DataW.trod_int Tryz.underlying3 h6
  obtain ⟨a7, e7, -⟩ := DataW.trod_int Tryz.underlying3 h7
  simp at e0 e1 e2 e3 e4 e5 e6 e7
  exact ⟨⟨a0, a1, a2, a3, a4, a5, a6, a7⟩, by unfold RRule; rw [e0, e1, e2, e3, e4, e5, e6, e7]⟩
end
end Go.Hg

namespace Go.Hg
open Go.RowKit Go.ChangeShapes Go.WideShapes Go.Deep Go.Proofs

section
variable {H : Type} {enc : TypeId × Value → H} {W : World} {base : Nat} {sp : Nat → Bool} {held : Bool}
set_option maxRecDepth 100000 in
theorem openRuleA {v : Value} {d : DataW H} {ps : List MemPlace} {r : Reach} {b0 : Nat} (hval : Value.okWide Tryz.prog W r b0 23 v) (h : DataW.Trod enc Tryz.prog W base sp held 23 v d ps) : ∃ o : PRule, v = o.args := by
  obtain ⟨cs, rfl, -⟩ := okWide_struct Tryz.underlying23 hval
  obtain ⟨n, hn⟩ := h
  obtain ⟨o, ho⟩ := openRule hn
  refine ⟨o, ?_⟩
  have e : cs.toList = ruleRow o := ho
  have e2 : cs = (ruleRow o).toArray := by rw [← e]
  rw [e2]
  rfl
end
end Go.Hg
