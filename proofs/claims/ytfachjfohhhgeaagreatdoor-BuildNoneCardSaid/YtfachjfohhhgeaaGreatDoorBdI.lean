/- rule.unique; rule.Keeps; check.first, Whole; build.ids: a graph's Ids from one on, rising; A row of structs of one's own, made since a block: the law of append; (*build.Job).Step; check.Broken: without a form, Unique, Exists; What changes touch: the plain words; a rule that no spot concerns stays kept; A good graph stays good under each change. Conditions: those that each theorem names. -/
import Derived.WalkKit
import Derived.WalkSpells
import Derived.WalkLawsBesides
import Derived.Lib.Hide
import Derived.BigQuiet
import Derived.Deep.LoopGhost
import Derived.Test.YtfachjfohhhgeaaGreatDoorRows
import Derived.Lib.SliceRun
import Derived.WideMake
import Derived.Deep.RegionLaw
import Derived.Lib.Overlaps
import Derived.Deep.RegionHeld3
import Derived.Laws.ResultCell
import Derived.Shelf.SortM.Plain
import Derived.Shelf.SortM.SortNone
import Derived.Shelf.SlicesE.DeleteFunc
import Derived.Maps.OwnOps
import Derived.Maps.OwnSet
import Derived.Carry
import Derived.Lib.SlKeysI
import Derived.Shelf.SlIterI.Nil
import Derived.Conc.LoneCalls
import Derived.Conc.SmallLaws
import Derived.Deep.CutBlock
import Derived.Deep.DeepCutAuto
import Derived.Laws.EntriesVeiled
import Derived.Maps.RangeWalk
import Derived.Lib.SlMapFilter
import Derived.Test.YtfachjfohhhgeaaGreatDoorBdH
namespace Go.Hg
open Go.RowKit Go.Proofs MapKept Go.Maps

theorem keyV : KeyK Tryz.prog 48 PVal.args := by
  refine keyK_struct3 (c0 := fun v : PVal => .int .i64 v.kind) (c1 := fun v => .int .i64 v.n) (c2 := fun v => .string v.s) Tryz.underlying48 (by kernel_rfl) (by decide) (by decide) (by decide) rfl rfl rfl (fun v => .inl ⟨_, rfl, Tryz.underlying3⟩) (fun v => .inl ⟨_, rfl, Tryz.underlying2⟩) (fun v => .inr ⟨_, rfl, Tryz.underlying9⟩) ?_
  intro a b h0 h1 h2
  cases a; cases b
  simp only [Value.int.injEq, Value.string.injEq, true_and] at h0 h1 h2
  rw [h0, h1, h2]

set_option maxRecDepth 100000 in
set_option maxHeartbeats 4000000 in
theorem ruleUnique (nodes : List PNode) (nv : Value) (r : PRule) (w : World) (S : Nat → Prop) (hn : NodesR S w nv nodes) :
    Calls Tryz.prog 68 #[nv, r.args] w fun e w' => e = .returned (.bool (uniqR nodes r)) ∧ Grow w w' := by
  obtain ⟨aa, ca, rfl, hal, hac, hA⟩ := SlR.open hn
  unfold maxLen at hac
  have HA := Lib.hid hA
  have HG := Lib.hid (show ∀ o1 o2, Grow w ((w.alloc o1).alloc o2) from fun o1 o2 => ((Grow.rfl' w).allocd o1).allocd o2)
  have HM0 := Lib.hid (show ∀ o1, MapK PVal.args ((w.alloc o1).alloc (.map #[] 0)) (w.heap.size + 1) (cntK ([] : List PVal)) 0 from fun o1 => by
    have h := MapK.made (kv := PVal.args) (w.alloc o1)
    rw [World.size_alloc] at h
    exact h)
  have HR0 := Lib.hid (show ∀ o2, RuleBox ((w.alloc (.cells #[.int .i64 r.id, .int .i64 r.kind, .string r.typ, .string r.name, .string r.from_, .string r.to_, .int .i64 r.n, .int .i64 r.state] 23 (0, 0))).alloc o2) w.heap.size r from fun o2 => by
    unfold RuleBox
    rw [((Grow.rfl' (w.alloc _)).allocd o2).heapEq (by simp)]
    exact heap_alloc_new w _)
  clear hn hA
  have hmm := @run_makeMap Tryz.prog
  go_enter Tryz.func68, Tryz.ntmps68
  go_wp2
  clear hmm
  go_loopg [13] nodes.length (fun g i wr => ∃ k : Nat, k ≤ nodes.length ∧ g = nodes.length - k ∧ i = .int .i64 k ∧ MapK PVal.args wr (w.heap.size + 1) (cntK ((nodes.take k).filterMap (valR r))) k ∧ ((nodes.take k).filterMap (valR r)).Nodup ∧ RuleBox wr w.heap.size r ∧ Grow w wr)
  case atStart => exact ⟨0, by omega, by omega, rfl, HM0.out _, by simp, HR0.out _, HG.out _ _⟩
  case round =>
    obtain ⟨k, hk, rfl, rfl, hm, hno, hrb, hgr⟩ := hrel
    have HM := Lib.hid hm; have HGR := Lib.hid hgr; have HNO := Lib.hid hno; have HRB0 := Lib.hid hrb
    have hml := hm.lt
    obtain ⟨hrl, c1, c2, c3, c4, c5, c6, c7, c0⟩ := hrb.cells
    clear hm hno hrb c1 c4 c5 c6 c7 c0
    by_cases hkl : k < nodes.length
    · obtain ⟨ba, oa, ra, rfl, hSa, hba, hRa, hca⟩ := HA.out k nodes[k] (List.getElem?_eq_getElem hkl)
      obtain ⟨pva, hba', a0, a1, a2, hpa⟩ := hRa.at hba hgr hca
      clear hca hRa hSa hba
      have HT := Lib.hid (show nodes.take (k + 1) = nodes.take k ++ [nodes[k]] from List.take_succ_eq_append_getElem hkl)
      generalize nodes[k] = x at *
      have HPA := Lib.hid hpa
      obtain ⟨_, _, rfl⟩ := hpa.isSlice
      have HW := Lib.hid (show ∀ o1, Grow wr (wr.alloc o1) from fun o1 => (Grow.rfl' wr).allocd o1)
      have HNB := Lib.hid (show ∀ o1 w', Grow (wr.alloc o1) w' → w'.heap[wr.heap.size]? = some o1 from fun o1 w' hg => by rw [hg.heapEq (by simp)]; exact heap_alloc_new wr _)
      obtain ⟨gv, hgv⟩ : ∃ gv, getV x.props r.name = gv := ⟨_, rfl⟩
      obtain ⟨bo, hbo⟩ : ∃ bo, (getP x.props r.name).isSome = bo := ⟨_, rfl⟩
      obtain ⟨bt, hbt⟩ : ∃ b, decide (x.typ = r.typ) = b := ⟨_, rfl⟩
      have HV := Lib.hid (show valR r x = if (bo && bt) = true then some gv else none by
        unfold valR
        rw [← hgv, ← hbo, ← hbt]
        unfold getV
        by_cases h : x.typ = r.typ
        · cases hp : getP x.props r.name <;> simp [h]
        · simp [h])
      have HGV := Lib.hid hgv; have HBO := Lib.hid hbo
      clear hpa hgr hgv hbo
      go_wp2_with fail
      refine (valGet S _ x.props r.name _ (HPA.out.grow (HW.out _))).mono ?_
      rintro e w2 ⟨rfl, hw2⟩
      rw [HGV.out, HBO.out]
      have HG2 := Lib.hid (HGR.out.step ((HW.out _).step hw2))
      have HWR2 := Lib.hid ((HW.out _).step hw2)
      have hnb := HNB.out _ w2 hw2
      have hnl := blk_lt hnb
      have n1 : w2.cell? ⟨wr.heap.size, 1, none⟩ = some (.string x.typ) := by rw [blk_cell hnb]; rfl
      have hrb2 := HRB0.out.grow HWR2.out
      obtain ⟨hrl2, c1, c2', c3', c4, c5, c6, c7, c0⟩ := hrb2.cells
      have hml2 := (HM.out.grow HWR2.out).lt
      have hsz := HGR.out.size
      clear hnb hw2 hrb2 c1 c3' c4 c5 c6 c7 c0 c2 c3 a0 a1 a2 hrl hml hba'
      have HM3 := Lib.hid (show MapK PVal.args (w2.alloc (.cells #[.int .i64 gv.kind, .int .i64 gv.n, .string gv.s] 48 (0, 0))).drew (w.heap.size + 1) (cntK ((nodes.take k).filterMap (valR r))) k from (HM.out.grow HWR2.out).grow (((Grow.rfl' w2).allocd _).drewd))
      have HG3 := Lib.hid (show Grow w (w2.alloc (.cells #[.int .i64 gv.kind, .int .i64 gv.n, .string gv.s] 48 (0, 0))) from HG2.out.allocd _)
      have HSTAY := Lib.hid (show ∀ o1, Grow w (w2.alloc o1) ∧ RuleBox (w2.alloc o1) w.heap.size r ∧ MapK PVal.args (w2.alloc o1) (w.heap.size + 1) (cntK ((nodes.take k).filterMap (valR r))) k from fun o1 => ⟨HG2.out.allocd o1, (HRB0.out.grow HWR2.out).grow ((Grow.rfl' w2).allocd o1), (HM.out.grow HWR2.out).grow ((Grow.rfl' w2).allocd o1)⟩)
      cases bo
      · have HV' := Lib.hid (show valR r x = none by rw [HV.out]; rfl)
        go_wp2
        go_roundg (nodes.length - (k + 1))
        case measure => omega
        case rel =>
          refine ⟨k + 1, by omega, rfl, by go_num, ?_, ?_, (HSTAY.out _).2.1, (HSTAY.out _).1⟩
          · rw [HT.out, List.filterMap_append, List.filterMap_cons_none HV'.out]
            simpa using (HSTAY.out _).2.2.mono (by omega)
          · rw [HT.out, List.filterMap_append, List.filterMap_cons_none HV'.out]
            simpa using HNO.out
      · cases bt
        · have HV' := Lib.hid (show valR r x = none by rw [HV.out]; rfl)
          go_wp2
          go_roundg (nodes.length - (k + 1))
          case measure => omega
          case rel =>
            refine ⟨k + 1, by omega, rfl, by go_num, ?_, ?_, (HSTAY.out _).2.1, (HSTAY.out _).1⟩
            · rw [HT.out, List.filterMap_append, List.filterMap_cons_none HV'.out]
              simpa using (HSTAY.out _).2.2.mono (by omega)
            · rw [HT.out, List.filterMap_append, List.filterMap_cons_none HV'.out]
              simpa using HNO.out
        · have HVS := Lib.hid (show valR r x = some gv by rw [HV.out]; rfl)
          clear HV
          have HV := HVS
          go_wp2_with fail
          have hnew : ∀ w' : World, (w'.heap[w2.heap.size]? = some (.cells #[.int .i64 gv.kind, .int .i64 gv.n, .string gv.s] 48 (0, 0))) → w'.cell? ⟨w2.heap.size, 0, none⟩ = some (.int .i64 gv.kind) ∧ w'.cell? ⟨w2.heap.size, 1, none⟩ = some (.int .i64 gv.n) ∧ w'.cell? ⟨w2.heap.size, 2, none⟩ = some (.string gv.s) := fun w' h => ⟨by rw [blk_cell h]; rfl, by rw [blk_cell h]; rfl, by rw [blk_cell h]; rfl⟩
          have hbx : (w2.alloc (.cells #[.int .i64 gv.kind, .int .i64 gv.n, .string gv.s] 48 (0, 0))).drew.heap[w2.heap.size]? = some (.cells #[.int .i64 gv.kind, .int .i64 gv.n, .string gv.s] 48 (0, 0)) := heap_alloc_new w2 _
          have KEEP0 := Lib.hid (hnew _ hbx)
          have KEEP5 := Lib.hid (show ∀ w5 : World, Mod (fun q => q = w.heap.size + 1) (w2.alloc (.cells #[.int .i64 gv.kind, .int .i64 gv.n, .string gv.s] 48 (0, 0))).drew w5 → _ from fun w5 h => hnew w5 ((h.block _ (blk_lt hbx) (by show ¬ w2.heap.size = w.heap.size + 1; omega)).trans hbx))
          have HRB := Lib.hid (show ∀ w5 : World, Mod (fun q => q = w.heap.size + 1) (w2.alloc (.cells #[.int .i64 gv.kind, .int .i64 gv.n, .string gv.s] 48 (0, 0))).drew w5 → RuleBox w5 w.heap.size r from fun w5 h => (h.block _ (by have := (HSTAY.out (.cells #[.int .i64 gv.kind, .int .i64 gv.n, .string gv.s] 48 (0, 0))).2.1.cells.1; exact this) (by show ¬ w.heap.size = w.heap.size + 1; omega)).trans (HSTAY.out _).2.1)
          clear hnew hbx
          have HWR := Lib.hid (show IntKind.i64.wrap ((((nodes.take k).filterMap (valR r)).count gv : Int) + 1) = (((nodes.take k).filterMap (valR r)).count gv : Int) + 1 by
            have h1 := List.count_le_length (a := gv) (l := (nodes.take k).filterMap (valR r))
            have h2 := List.length_filterMap_le (valR r) (nodes.take k)
            rw [List.length_take] at h2
            rw [IntKind.wrap_i64] <;> omega)
          refine wp_region_noPanic ?_
          refine wp_region_held_drew (S := fun w' => w'.cell? ⟨w2.heap.size, 0, none⟩ = some (.int .i64 gv.kind) ∧ w'.cell? ⟨w2.heap.size, 1, none⟩ = some (.int .i64 gv.n) ∧ w'.cell? ⟨w2.heap.size, 2, none⟩ = some (.string gv.s)) (by kernel_rfl) ?_ (fun hHeld => ?_)
          · exact KEEP0.out
          refine' wpAnyH_take (i := 0) (oi := ?o1) (v := _) (by simp only [List.getElem?_toArray, List.getElem?_cons_zero]; rfl) (by kernel_rfl) (by kernel_rfl) (by kernel_rfl) (fun _ _ _ h => h) (Or.inl ⟨by rfl, ?y1⟩) (by assumption) ?r1
          case y1 =>
            intro wS hSw
            try dsimp only at hSw
            go_simp
            all_goals with_reducible rfl
          simp only [Act.put, List.setIfInBounds_toArray, List.set_cons_zero, List.set_cons_succ]
          refine' wpAnyH_take (i := 1) (oi := ?o2) (v := _) (by simp only [List.getElem?_toArray, List.getElem?_cons_succ, List.getElem?_cons_zero]; rfl) (by kernel_rfl) (by kernel_rfl) (by kernel_rfl) (fun _ _ _ h => h) (Or.inl ⟨by rfl, ?y2⟩) (by assumption) ?r2
          case y2 =>
            intro wS hSw
            try dsimp only at hSw
            go_simp
            all_goals with_reducible rfl
          simp only [Act.put, List.setIfInBounds_toArray, List.set_cons_zero, List.set_cons_succ]
          refine wpAnyH_ready (rs := [2, 4]) (by kernel_rfl) (by simp) ?_
          refine' AllReadyH.cons (o := ?o3) (by simp only [List.getElem?_toArray, List.getElem?_cons_succ, List.getElem?_cons_zero]; rfl) (fun K hK => ?s3) ?m3
          rotate_left
          · refine' AllReadyH.cons (o := ?o4) (by simp only [List.getElem?_toArray, List.getElem?_cons_succ, List.getElem?_cons_zero]; rfl) (fun K hK => ?s4) ?m4
            case m4 => exact AllReadyH.nil
            refine step_entryK rfl (.tmp 33) (.tmp 34) 152 rfl 48 3 Tryz.underlying152 keyV (.int .i64 0) zeroIntV (by rfl) HM3.out gv (by rfl) _ (cntK_getD _ gv) ?_
            intro w5 s5 q1 q2 q3 q4
            refine hK.out _ _ ?_ (fun hHeld => ?_)
            · exact KEEP5.out w5 q3
            clear hK K
            try simp only [Act.put, List.setIfInBounds_toArray, List.set_cons_zero, List.set_cons_succ]
            refine' wpAnyH_take (i := 5) (oi := ?o5) (v := _) (by simp only [List.getElem?_toArray, List.getElem?_cons_succ, List.getElem?_cons_zero]; rfl) (by kernel_rfl) (by kernel_rfl) (by kernel_rfl) (fun _ _ _ h => h) (Or.inl ⟨by rfl, ?y5⟩) (by assumption) ?r5
            case y5 =>
              intro wS hSw
              try dsimp only at hSw
              go_simp
              all_goals with_reducible rfl
            simp only [Act.put, List.setIfInBounds_toArray, List.set_cons_zero, List.set_cons_succ]
            refine wpAnyH_ready (rs := [2]) (by kernel_rfl) (by simp) ?_
            refine' AllReadyH.cons (o := ?o6) (by simp only [List.getElem?_toArray, List.getElem?_cons_succ, List.getElem?_cons_zero]; rfl) (fun K hK => ?s6) ?m6
            case m6 => exact AllReadyH.nil
            refine step_lookK rfl (.tmp 33) (.tmp 34) 152 rfl 48 3 Tryz.underlying152 keyV (.int .i64 0) (zeroIntV _) (by rfl) q1 gv (by rfl) (.int .i64 (((nodes.take k).filterMap (valR r)).count gv : Int)) (by rw [kput_same]; rfl) ?_
            refine hK.out _ _ ?_ (fun hHeld => ?_)
            · exact KEEP5.out w5 q3
            clear hK K
            try simp only [Act.put, List.setIfInBounds_toArray, List.set_cons_zero, List.set_cons_succ]
            refine' wpAnyH_take (i := 3) (oi := ?o7) (v := _) (by simp only [List.getElem?_toArray, List.getElem?_cons_succ, List.getElem?_cons_zero]; rfl) (by kernel_rfl) (by kernel_rfl) (by kernel_rfl) (fun _ _ _ h => h) (Or.inl ⟨by rfl, ?y7⟩) (by assumption) ?r7
            case y7 =>
              intro wS hSw
              try dsimp only at hSw
              go_simp
              all_goals with_reducible rfl
            simp only [Act.put, List.setIfInBounds_toArray, List.set_cons_zero, List.set_cons_succ]
            refine wpAnyH_ready (rs := [6]) (by kernel_rfl) (by simp) ?_
            refine' AllReadyH.cons (o := ?o8) (by simp only [List.getElem?_toArray, List.getElem?_cons_succ, List.getElem?_cons_zero]; rfl) (fun K hK => ?s8) ?m8
            case m8 => exact AllReadyH.nil
            refine step_storeK rfl (.tmp 33) (.tmp 38) (.tmp 36) 152 rfl 48 keyV (by rfl) q1 gv s5 (by rfl) q2 (.int .i64 ((((nodes.take k).filterMap (valR r)).count gv : Int) + 1)) (by simp [Act.eval, HWR.out]) ?_
            intro w6 p1 p3 p4
            rw [kput_twice, ← kput_twice _ _ (.int .i64 0), cntK_step] at p1
            refine hK.out _ _ ?_ (fun hHeld => ?_)
            · exact KEEP5.out w6 (q3.step p3)
            clear hK K
            try simp only [Act.put]
            refine wpAnyH_done (by kernel_rfl) ?_ _
            refine NoPanic.normal ?_
            obtain ⟨y0, y1, y2⟩ := KEEP5.out w6 (q3.step p3)
            have HM6 := Lib.hid p1
            have HG6 := Lib.hid ((HG3.out.drewd).modd (q3.step p3) (fun q hq => by rw [hq]; omega))
            have HB6 := Lib.hid (HRB.out w6 (q3.step p3))
            clear q1 q2 q3 q4 p1 p3 p4
            by_cases hc : ((nodes.take k).filterMap (valR r)).count gv = 0
            · have HL := Lib.hid (show (cntK ((nodes.take k).filterMap (valR r) ++ [gv]) gv).getD (.int .i64 0) = .int .i64 1 by rw [cntK_getD, List.count_append, hc]; simp)
              have HND := Lib.hid (show ((nodes.take k).filterMap (valR r) ++ [gv]).Nodup by
                rw [List.nodup_append]
                refine ⟨HNO.out, by simp, ?_⟩
                intro a ha b hb hab
                rw [List.mem_singleton] at hb
                subst hb
                subst hab
                rw [List.count_eq_zero] at hc
                exact hc ha)
              clear hc
              go_wp2_with (at_lookup; go_must (refine wpList_lookK _ rfl (.tmp 39) (.tmp 40) 152 rfl 48 3 Tryz.underlying152 keyV (.int .i64 0) (zeroIntV _) _ _ _ rfl HM6.out gv rfl _ HL.out ?_))
              go_roundg (nodes.length - (k + 1))
              case measure => omega
              case rel =>
                refine ⟨k + 1, by omega, rfl, by go_num, ?_, ?_, HB6.out, HG6.out⟩
                · rw [HT.out, List.filterMap_append, List.filterMap_cons_some HV.out]
                  exact HM6.out
                · rw [HT.out, List.filterMap_append, List.filterMap_cons_some HV.out]
                  exact HND.out
            · have HL := Lib.hid (show (cntK ((nodes.take k).filterMap (valR r) ++ [gv]) gv).getD (.int .i64 0) = .int .i64 ((((nodes.take k).filterMap (valR r)).count gv : Int) + 1) by rw [cntK_getD, List.count_append]; simp)
              have HX := Lib.hid (show uniqR nodes r = false by
                unfold uniqR
                refine decide_eq_false fun hn => ?_
                have h1 : ((nodes.take (k + 1)).filterMap (valR r)).Nodup := hn.sublist ((List.take_sublist _ _).filterMap _)
                rw [HT.out, List.filterMap_append, List.filterMap_cons_some HV.out] at h1
                have h2 := (List.nodup_append.1 h1).2.2 gv (List.count_pos_iff.1 (by omega)) gv (by simp)
                exact h2 rfl)
              generalize ((nodes.take k).filterMap (valR r)).count gv = c at *
              go_wp2_with (at_lookup; go_must (refine wpList_lookK _ rfl (.tmp 39) (.tmp 40) 152 rfl 48 3 Tryz.underlying152 keyV (.int .i64 0) (zeroIntV _) _ _ _ rfl HM6.out gv rfl _ HL.out ?_))
              go_ret
              exact ⟨by rw [HX.out]; rfl, HG6.out⟩
          refine step_lookK rfl (.tmp 33) (.tmp 34) 152 rfl 48 3 Tryz.underlying152 keyV (.int .i64 0) (zeroIntV _) (by rfl) HM3.out gv (by rfl) _ (cntK_getD _ gv) ?_
          refine hK.out _ _ ?_ (fun hHeld => ?_)
          · exact KEEP0.out
          clear hK K
          try simp only [Act.put, List.setIfInBounds_toArray, List.set_cons_zero, List.set_cons_succ]
          refine' wpAnyH_take (i := 3) (oi := ?o9) (v := _) (by simp only [List.getElem?_toArray, List.getElem?_cons_succ, List.getElem?_cons_zero]; rfl) (by kernel_rfl) (by kernel_rfl) (by kernel_rfl) (fun _ _ _ h => h) (Or.inl ⟨by rfl, ?y9⟩) (by assumption) ?r9
          case y9 =>
            intro wS hSw
            try dsimp only at hSw
            go_simp
            all_goals with_reducible rfl
          simp only [Act.put, List.setIfInBounds_toArray, List.set_cons_zero, List.set_cons_succ]
          refine wpAnyH_ready (rs := [4]) (by kernel_rfl) (by simp) ?_
          refine' AllReadyH.cons (o := ?o10) (by simp only [List.getElem?_toArray, List.getElem?_cons_succ, List.getElem?_cons_zero]; rfl) (fun K hK => ?s10) ?m10
          case m10 => exact AllReadyH.nil
          refine step_entryK rfl (.tmp 33) (.tmp 34) 152 rfl 48 3 Tryz.underlying152 keyV (.int .i64 0) zeroIntV (by rfl) HM3.out gv (by rfl) _ (cntK_getD _ gv) ?_
          intro w5 s5 q1 q2 q3 q4
          refine hK.out _ _ ?_ (fun hHeld => ?_)
          · exact KEEP5.out w5 q3
          clear hK K
          try simp only [Act.put, List.setIfInBounds_toArray, List.set_cons_zero, List.set_cons_succ]
          refine' wpAnyH_take (i := 5) (oi := ?o11) (v := _) (by simp only [List.getElem?_toArray, List.getElem?_cons_succ, List.getElem?_cons_zero]; rfl) (by kernel_rfl) (by kernel_rfl) (by kernel_rfl) (fun _ _ _ h => h) (Or.inl ⟨by rfl, ?y11⟩) (by assumption) ?r11
          case y11 =>
            intro wS hSw
            try dsimp only at hSw
            go_simp
            all_goals with_reducible rfl
          simp only [Act.put, List.setIfInBounds_toArray, List.set_cons_zero, List.set_cons_succ]
          refine wpAnyH_ready (rs := [6]) (by kernel_rfl) (by simp) ?_
          refine' AllReadyH.cons (o := ?o12) (by simp only [List.getElem?_toArray, List.getElem?_cons_succ, List.getElem?_cons_zero]; rfl) (fun K hK => ?s12) ?m12
          case m12 => exact AllReadyH.nil
          refine step_storeK rfl (.tmp 33) (.tmp 38) (.tmp 36) 152 rfl 48 keyV (by rfl) q1 gv s5 (by rfl) q2 (.int .i64 ((((nodes.take k).filterMap (valR r)).count gv : Int) + 1)) (by simp [Act.eval, HWR.out]) ?_
          intro w6 p1 p3 p4
          rw [kput_twice, ← kput_twice _ _ (.int .i64 0), cntK_step] at p1
          refine hK.out _ _ ?_ (fun hHeld => ?_)
          · exact KEEP5.out w6 (q3.step p3)
          clear hK K
          try simp only [Act.put]
          refine wpAnyH_done (by kernel_rfl) ?_ _
          refine NoPanic.normal ?_
          obtain ⟨y0, y1, y2⟩ := KEEP5.out w6 (q3.step p3)
          have HM6 := Lib.hid p1
          have HG6 := Lib.hid ((HG3.out.drewd).modd (q3.step p3) (fun q hq => by rw [hq]; omega))
          have HB6 := Lib.hid (HRB.out w6 (q3.step p3))
          clear q1 q2 q3 q4 p1 p3 p4
          by_cases hc : ((nodes.take k).filterMap (valR r)).count gv = 0
          · have HL := Lib.hid (show (cntK ((nodes.take k).filterMap (valR r) ++ [gv]) gv).getD (.int .i64 0) = .int .i64 1 by rw [cntK_getD, List.count_append, hc]; simp)
            have HND := Lib.hid (show ((nodes.take k).filterMap (valR r) ++ [gv]).Nodup by
              rw [List.nodup_append]
              refine ⟨HNO.out, by simp, ?_⟩
              intro a ha b hb hab
              rw [List.mem_singleton] at hb
              subst hb
              subst hab
              rw [List.count_eq_zero] at hc
              exact hc ha)
            clear hc
            go_wp2_with (at_lookup; go_must (refine wpList_lookK _ rfl (.tmp 39) (.tmp 40) 152 rfl 48 3 Tryz.underlying152 keyV (.int .i64 0) (zeroIntV _) _ _ _ rfl HM6.out gv rfl _ HL.out ?_))
            go_roundg (nodes.length - (k + 1))
            case measure => omega
            case rel =>
              refine ⟨k + 1, by omega, rfl, by go_num, ?_, ?_, HB6.out, HG6.out⟩
              · rw [HT.out, List.filterMap_append, List.filterMap_cons_some HV.out]
                exact HM6.out
              · rw [HT.out, List.filterMap_append, List.filterMap_cons_some HV.out]
                exact HND.out
          · have HL := Lib.hid (show (cntK ((nodes.take k).filterMap (valR r) ++ [gv]) gv).getD (.int .i64 0) = .int .i64 ((((nodes.take k).filterMap (valR r)).count gv : Int) + 1) by rw [cntK_getD, List.count_append]; simp)
            have HX := Lib.hid (show uniqR nodes r = false by
              unfold uniqR
              refine decide_eq_false fun hn => ?_
              have h1 : ((nodes.take (k + 1)).filterMap (valR r)).Nodup := hn.sublist ((List.take_sublist _ _).filterMap _)
              rw [HT.out, List.filterMap_append, List.filterMap_cons_some HV.out] at h1
              have h2 := (List.nodup_append.1 h1).2.2 gv (List.count_pos_iff.1 (by omega)) gv (by simp)
              exact h2 rfl)
            generalize ((nodes.take k).filterMap (valR r)).count gv = c at *
            go_wp2_with (at_lookup; go_must (refine wpList_lookK _ rfl (.tmp 39) (.tmp 40) 152 rfl 48 3 Tryz.underlying152 keyV (.int .i64 0) (zeroIntV _) _ _ _ rfl HM6.out gv rfl _ HL.out ?_))
            go_ret
            exact ⟨by rw [HX.out]; rfl, HG6.out⟩
    · have hkk : nodes.take k = nodes := List.take_of_length_le (by omega)
      rw [hkk] at HNO
      have HX := Lib.hid (show uniqR nodes r = true by unfold uniqR; exact decide_eq_true HNO.out)
      clear hkk
      go_wp2
      go_ret
      exact ⟨by rw [HX.out]; rfl, HGR.out⟩
end Go.Hg

namespace Go.Hg
open Go.RowKit Go.Proofs MapKept

theorem boxes3k (w : World) (o1 o2 o3 : Obj) (w' : World) (hg : Grow (((w.alloc o1).alloc o2).alloc o3) w') : w'.heap[w.heap.size]? = some o1 ∧ w'.heap[w.heap.size + 1]? = some o2 ∧ w'.heap[w.heap.size + 2]? = some o3 := by
  have h1 : (w.alloc o1).heap[w.heap.size]? = some o1 := heap_alloc_new w o1
  have h2 : ((w.alloc o1).alloc o2).heap[w.heap.size + 1]? = some o2 := by simpa using heap_alloc_new (w.alloc o1) o2
  have h3 : (((w.alloc o1).alloc o2).alloc o3).heap[w.heap.size + 2]? = some o3 := by simpa using heap_alloc_new ((w.alloc o1).alloc o2) o3
  have g1 : Grow (w.alloc o1) w' := (((Grow.rfl' (w.alloc o1)).allocd o2).allocd o3).step hg
  have g2 : Grow ((w.alloc o1).alloc o2) w' := ((Grow.rfl' ((w.alloc o1).alloc o2)).allocd o3).step hg
  exact ⟨(g1.heapEq (blk_lt h1)).trans h1, (g2.heapEq (blk_lt h2)).trans h2, (hg.heapEq (blk_lt h3)).trans h3⟩
theorem run_look_hit1 {P : Program} (W : World) (r : Nat) (hr : W.heap.size = r) {mty kt et : TypeId} (hm : P.underlying mty = some (.map kt et)) (hk : P.underlying kt = some (.int .i64)) (es : Array MapEntry) (c : Nat) (k : Int) (i : Nat) (v : Value) (hf : Instr.findNow (.int .i64) (.int .i64 k) es.toList 0 = some (some (i, v))) :
    (Instr.lookup mty (.map (some r)) (.int .i64 k) false).run P (W.alloc (.map es c)) = .ok v (W.alloc (.map es c)) := by
  subst hr
  have hb : (W.alloc (.map es c)).heap[W.heap.size]? = some (.map es c) := heap_alloc_new W _
  have hc : (Instr.checkKey es.isEmpty 10000 kt (.int .i64 k)).run P (W.alloc (.map es c)) = .ok () (W.alloc (.map es c)) := MapKept.run_checkKey (k := .int .i64 k) hk (by simp [MapKept.IsKey]) es.isEmpty 9999
  have hf' := MapKept.run_findKey (P := P) (w := W.alloc (.map es c)) hk hf
  simp [Instr.lookup, run_underlying hm, MapKept.run_getObj_map hb, Result.andThen]
  rw [hc]
  simp [hf']

set_option maxRecDepth 100000 in
set_option maxHeartbeats 1000000 in
/-- rule 'unique' -/
theorem keepsUniq (nodes : List PNode) (nv : Value) (nb rb : Nat) (r : PRule) (w : World) (S : Nat → Prop) (hn : NodesR S w nv nodes) (hnb : OneBox w nb nv) (hr : RuleBox w rb r) :
    Calls Tryz.prog 67 #[.pointer (some ⟨nb, 0, none⟩), .pointer (some ⟨rb, 0, none⟩)] w fun e w' => e = .returned (.bool (uniqR nodes r)) ∧ Grow w w' := by
  have HN := Lib.hid hn
  obtain ⟨hnl, d0⟩ := hnb.cell
  obtain ⟨hrl, c1, c2, c3, c4, c5, c6, c7, c0⟩ := hr.cells
  obtain ⟨_, _, rfl, _⟩ := SlR.open hn
  clear hn hr hnb
  go_enter Tryz.func67, Tryz.ntmps67
  go_wp2_with fail
  refine (ruleUnique nodes _ r _ S HN.out).mono ?_
  rintro e w2 ⟨rfl, hw2⟩
  obtain ⟨b, hb⟩ : ∃ b, uniqR nodes r = b := ⟨_, rfl⟩
  have HX := Lib.hid hb
  rw [hb]
  clear hb
  go_wp2
  go_ret
  exact ⟨by rw [HX.out]; rfl, hw2⟩
theorem entK2 : ∀ args w, (callFunc 67 args).run Tryz.prog w = .ok (.enter 67 args) w := fun args w => enterF Tryz.func67 (by kernel_rfl) rfl args w
theorem entK3 : ∀ args w, (callFunc 69 args).run Tryz.prog w = .ok (.enter 69 args) w := fun args w => enterF Tryz.func69 (by kernel_rfl) rfl args w
theorem entK4 : ∀ args w, (callFunc 73 args).run Tryz.prog w = .ok (.enter 73 args) w := fun args w => enterF Tryz.func73 (by kernel_rfl) rfl args w
theorem entK5 : ∀ args w, (callFunc 77 args).run Tryz.prog w = .ok (.enter 77 args) w := fun args w => enterF Tryz.func77 (by kernel_rfl) rfl args w

set_option maxRecDepth 100000 in
set_option maxHeartbeats 4000000 in
theorem ruleKeeps0 (nodes : List PNode) (edges : List PEdge) (nv ev : Value) (r : PRule) (w : World) (S : Nat → Prop) (hn : NodesR S w nv nodes) (he : EdgesR S w ev edges) (h64 : ∀ e ∈ edges, (Lit.int .i64 e.from_).wf = true) (hf : formR r = false) :
    Calls Tryz.prog 45 #[nv, ev, r.args] w fun e w' => e = .returned (.bool (keepR nodes edges r)) ∧ Grow w w' := by
  have HN := Lib.hid hn; have HE := Lib.hid he; have H64 := Lib.hid h64; have HF := Lib.hid hf
  obtain ⟨_, _, rfl, _⟩ := SlR.open hn
  obtain ⟨_, _, rfl, _⟩ := SlR.open he
  have HG := Lib.hid (show ∀ o1 o2 o3, Grow w (((w.alloc o1).alloc o2).alloc o3) from fun o1 o2 o3 => (((Grow.rfl' w).allocd o1).allocd o2).allocd o3)
  have HB := Lib.hid (boxes3k w)
  have hmm := @run_makeMap Tryz.prog
  clear hn he h64 hf
  go_enter Tryz.func45, Tryz.ntmps45
  go_wp2_with fail
  refine (ruleForm r _).mono ?_
  rintro e w2 ⟨rfl, hw2⟩
  rw [HF.out]
  obtain ⟨b1, b2, b3⟩ := HB.out _ _ _ w2 hw2
  have HG2 := Lib.hid ((HG.out _ _ _).step hw2)
  have HRB := Lib.hid (show RuleBox w2 (w.heap.size + 1 + 1) r from b3)
  have HNB := Lib.hid (show OneBox w2 w.heap.size _ from ⟨_, b1⟩)
  have HEB := Lib.hid (show OneBox w2 (w.heap.size + 1) _ from ⟨_, b2⟩)
  clear b1 b2 b3 hw2
  generalize w.heap.size + 1 + 1 = rb at *
  go_wp2
  go_ret
  exact ⟨by unfold keepR; rw [HF.out]; rfl, HG2.out⟩

set_option maxRecDepth 100000 in
set_option maxHeartbeats 4000000 in
theorem ruleKeeps1 (nodes : List PNode) (edges : List PEdge) (nv ev : Value) (r : PRule) (w : World) (S : Nat → Prop) (hn : NodesR S w nv nodes) (he : EdgesR S w ev edges) (h64 : ∀ e ∈ edges, (Lit.int .i64 e.from_).wf = true) (hf : formR r = true) (hk : r.kind = 1) :
    Calls Tryz.prog 45 #[nv, ev, r.args] w fun e w' => e = .returned (.bool (keepR nodes edges r)) ∧ Grow w w' := by
  have HN := Lib.hid hn; have HE := Lib.hid he; have H64 := Lib.hid h64; have HF := Lib.hid hf
  obtain ⟨_, _, rfl, _⟩ := SlR.open hn
  obtain ⟨_, _, rfl, _⟩ := SlR.open he
  have HG := Lib.hid (show ∀ o1 o2 o3, Grow w (((w.alloc o1).alloc o2).alloc o3) from fun o1 o2 o3 => (((Grow.rfl' w).allocd o1).allocd o2).allocd o3)
  have HB := Lib.hid (boxes3k w)
  have hmm := @run_makeMap Tryz.prog
  have HK := Lib.hid hk
  clear hn he h64 hf hk
  go_enter Tryz.func45, Tryz.ntmps45
  go_wp2_with fail
  refine (ruleForm r _).mono ?_
  rintro e w2 ⟨rfl, hw2⟩
  rw [HF.out]
  obtain ⟨b1, b2, b3⟩ := HB.out _ _ _ w2 hw2
  have HG2 := Lib.hid ((HG.out _ _ _).step hw2)
  have HRB := Lib.hid (show RuleBox w2 (w.heap.size + 1 + 1) r from b3)
  have HNB := Lib.hid (show OneBox w2 w.heap.size _ from ⟨_, b1⟩)
  have HEB := Lib.hid (show OneBox w2 (w.heap.size + 1) _ from ⟨_, b2⟩)
  clear b1 b2 b3 hw2
  generalize w.heap.size + 1 + 1 = rb at *
  have hsz : (w2.alloc (.cells #[ofV (rb)] 84)).heap.size = w2.heap.size + 1 := by simp
  have hT : Tryz.prog.underlying 131 = some (.map 3 32) := Tryz.underlying131
  have hI : Tryz.prog.underlying 3 = some (.int .i64) := Tryz.underlying3
  have i1 := run_ins _ _ hsz hT hI #[] 0 1 (.func (.func 67) #[] #[.pointer (some ⟨w.heap.size, 0, none⟩), .pointer (some ⟨rb, 0, none⟩)]) rfl
  have i2 := run_ins _ _ hsz hT hI #[{ key := .int .i64 1, val := (.func (.func 67) #[] #[.pointer (some ⟨w.heap.size, 0, none⟩), .pointer (some ⟨rb, 0, none⟩)]), born := 0 }] 1 2 (.func (.func 69) #[] #[.pointer (some ⟨w.heap.size, 0, none⟩), .pointer (some ⟨rb, 0, none⟩), .pointer (some ⟨w2.heap.size, 0, none⟩)]) rfl
  have i3 := run_ins _ _ hsz hT hI #[{ key := .int .i64 1, val := (.func (.func 67) #[] #[.pointer (some ⟨w.heap.size, 0, none⟩), .pointer (some ⟨rb, 0, none⟩)]), born := 0 }, { key := .int .i64 2, val := (.func (.func 69) #[] #[.pointer (some ⟨w.heap.size, 0, none⟩), .pointer (some ⟨rb, 0, none⟩), .pointer (some ⟨w2.heap.size, 0, none⟩)]), born := 1 }] 2 3 (.func (.func 73) #[] #[.pointer (some ⟨w.heap.size + 1, 0, none⟩), .pointer (some ⟨w.heap.size, 0, none⟩), .pointer (some ⟨w2.heap.size, 0, none⟩), .pointer (some ⟨rb, 0, none⟩)]) rfl
  have i4 := run_ins _ _ hsz hT hI #[{ key := .int .i64 1, val := (.func (.func 67) #[] #[.pointer (some ⟨w.heap.size, 0, none⟩), .pointer (some ⟨rb, 0, none⟩)]), born := 0 }, { key := .int .i64 2, val := (.func (.func 69) #[] #[.pointer (some ⟨w.heap.size, 0, none⟩), .pointer (some ⟨rb, 0, none⟩), .pointer (some ⟨w2.heap.size, 0, none⟩)]), born := 1 }, { key := .int .i64 3, val := (.func (.func 73) #[] #[.pointer (some ⟨w.heap.size + 1, 0, none⟩), .pointer (some ⟨w.heap.size, 0, none⟩), .pointer (some ⟨w2.heap.size, 0, none⟩), .pointer (some ⟨rb, 0, none⟩)]), born := 2 }] 3 4 (.func (.func 77) #[] #[.pointer (some ⟨w.heap.size + 1, 0, none⟩), .pointer (some ⟨w2.heap.size, 0, none⟩), .pointer (some ⟨rb, 0, none⟩)]) rfl
  simp only [List.push_toArray, List.cons_append, List.nil_append, Nat.reduceAdd] at i1 i2 i3 i4
  have lk := run_look_hit1 _ _ hsz hT hI #[{ key := .int .i64 1, val := (.func (.func 67) #[] #[.pointer (some ⟨w.heap.size, 0, none⟩), .pointer (some ⟨rb, 0, none⟩)]), born := 0 }, { key := .int .i64 2, val := (.func (.func 69) #[] #[.pointer (some ⟨w.heap.size, 0, none⟩), .pointer (some ⟨rb, 0, none⟩), .pointer (some ⟨w2.heap.size, 0, none⟩)]), born := 1 }, { key := .int .i64 3, val := (.func (.func 73) #[] #[.pointer (some ⟨w.heap.size + 1, 0, none⟩), .pointer (some ⟨w.heap.size, 0, none⟩), .pointer (some ⟨w2.heap.size, 0, none⟩), .pointer (some ⟨rb, 0, none⟩)]), born := 2 }, { key := .int .i64 4, val := (.func (.func 77) #[] #[.pointer (some ⟨w.heap.size + 1, 0, none⟩), .pointer (some ⟨w2.heap.size, 0, none⟩), .pointer (some ⟨rb, 0, none⟩)]), born := 3 }] 4 1 0 (.func (.func 67) #[] #[.pointer (some ⟨w.heap.size, 0, none⟩), .pointer (some ⟨rb, 0, none⟩)]) rfl
  have HG3 := Lib.hid (show ∀ o1 o2, Grow w2 ((w2.alloc o1).alloc o2) from fun o1 o2 => ((Grow.rfl' w2).allocd o1).allocd o2)
  have HG4 := Lib.hid (show ∀ o1 o2, Grow w ((w2.alloc o1).alloc o2) from fun o1 o2 => HG2.out.step (HG3.out o1 o2))
  have HFB := Lib.hid (show ∀ o2, OneBox ((w2.alloc (.cells #[ofV (rb)] 84)).alloc o2) w2.heap.size (ofV (rb)) from fun o2 => ⟨_, by
    rw [((Grow.rfl' (w2.alloc (.cells #[ofV (rb)] 84))).allocd o2).heapEq (by simp)]
    exact heap_alloc_new w2 _⟩)
  obtain ⟨hrl, -, c2, c3, c4, c5, c6, c7, c0⟩ := HRB.out.cells
  have c1 : w2.cell? ⟨rb, 1, none⟩ = some (.int .i64 1) := by rw [HRB.out.cells.2.1, HK.out]
  have entK2 := entK2
  clear hsz c2 c3 c4 c5 c6 c7 c0
  go_wp2_with fail
  refine (keepsUniq nodes _ _ _ r _ S (HN.out.grow (HG4.out _ _)) (HNB.out.grow (HG3.out _ _)) (HRB.out.grow (HG3.out _ _))).mono ?_
  rintro e w3 ⟨rfl, hw3⟩
  obtain ⟨b, hb⟩ : ∃ b, (uniqR nodes r) = b := ⟨_, rfl⟩
  have HX := Lib.hid (show keepR nodes edges r = b by unfold keepR holdR; rw [HF.out, HK.out]; simpa using hb)
  rw [hb]
  clear hb
  go_wp2
  go_ret
  exact ⟨by rw [HX.out]; rfl, (HG4.out _ _).step hw3⟩

set_option maxRecDepth 100000 in
set_option maxHeartbeats 4000000 in
theorem ruleKeeps2 (nodes : List PNode) (edges : List PEdge) (nv ev : Value) (r : PRule) (w : World) (S : Nat → Prop) (hn : NodesR S w nv nodes) (he : EdgesR S w ev edges) (h64 : ∀ e ∈ edges, (Lit.int .i64 e.from_).wf = true) (hf : formR r = true) (hk : r.kind = 2) :
    Calls Tryz.prog 45 #[nv, ev, r.args] w fun e w' => e = .returned (.bool (keepR nodes edges r)) ∧ Grow w w' := by
  have HN := Lib.hid hn; have HE := Lib.hid he; have H64 := Lib.hid h64; have HF := Lib.hid hf
  obtain ⟨_, _, rfl, _⟩ := SlR.open hn
  obtain ⟨_, _, rfl, _⟩ := SlR.open he
  have HG := Lib.hid (show ∀ o1 o2 o3, Grow w (((w.alloc o1).alloc o2).alloc o3) from fun o1 o2 o3 => (((Grow.rfl' w).allocd o1).allocd o2).allocd o3)
  have HB := Lib.hid (boxes3k w)
  have hmm := @run_makeMap Tryz.prog
  have HK := Lib.hid hk
  clear hn he h64 hf hk
  go_enter Tryz.func45, Tryz.ntmps45
  go_wp2_with fail
  refine (ruleForm r _).mono ?_
  rintro e w2 ⟨rfl, hw2⟩
  rw [HF.out]
  obtain ⟨b1, b2, b3⟩ := HB.out _ _ _ w2 hw2
  have HG2 := Lib.hid ((HG.out _ _ _).step hw2)
  have HRB := Lib.hid (show RuleBox w2 (w.heap.size + 1 + 1) r from b3)
  have HNB := Lib.hid (show OneBox w2 w.heap.size _ from ⟨_, b1⟩)
  have HEB := Lib.hid (show OneBox w2 (w.heap.size + 1) _ from ⟨_, b2⟩)
  clear b1 b2 b3 hw2
  generalize w.heap.size + 1 + 1 = rb at *
  have hsz : (w2.alloc (.cells #[ofV (rb)] 84)).heap.size = w2.heap.size + 1 := by simp
  have hT : Tryz.prog.underlying 131 = some (.map 3 32) := Tryz.underlying131
  have hI : Tryz.prog.underlying 3 = some (.int .i64) := Tryz.underlying3
  have i1 := run_ins _ _ hsz hT hI #[] 0 1 (.func (.func 67) #[] #[.pointer (some ⟨w.heap.size, 0, none⟩), .pointer (some ⟨rb, 0, none⟩)]) rfl
  have i2 := run_ins _ _ hsz hT hI #[{ key := .int .i64 1, val := (.func (.func 67) #[] #[.pointer (some ⟨w.heap.size, 0, none⟩), .pointer (some ⟨rb, 0, none⟩)]), born := 0 }] 1 2 (.func (.func 69) #[] #[.pointer (some ⟨w.heap.size, 0, none⟩), .pointer (some ⟨rb, 0, none⟩), .pointer (some ⟨w2.heap.size, 0, none⟩)]) rfl
  have i3 := run_ins _ _ hsz hT hI #[{ key := .int .i64 1, val := (.func (.func 67) #[] #[.pointer (some ⟨w.heap.size, 0, none⟩), .pointer (some ⟨rb, 0, none⟩)]), born := 0 }, { key := .int .i64 2, val := (.func (.func 69) #[] #[.pointer (some ⟨w.heap.size, 0, none⟩), .pointer (some ⟨rb, 0, none⟩), .pointer (some ⟨w2.heap.size, 0, none⟩)]), born := 1 }] 2 3 (.func (.func 73) #[] #[.pointer (some ⟨w.heap.size + 1, 0, none⟩), .pointer (some ⟨w.heap.size, 0, none⟩), .pointer (some ⟨w2.heap.size, 0, none⟩), .pointer (some ⟨rb, 0, none⟩)]) rfl
  have i4 := run_ins _ _ hsz hT hI #[{ key := .int .i64 1, val := (.func (.func 67) #[] #[.pointer (some ⟨w.heap.size, 0, none⟩), .pointer (some ⟨rb, 0, none⟩)]), born := 0 }, { key := .int .i64 2, val := (.func (.func 69) #[] #[.pointer (some ⟨w.heap.size, 0, none⟩), .pointer (some ⟨rb, 0, none⟩), .pointer (some ⟨w2.heap.size, 0, none⟩)]), born := 1 }, { key := .int .i64 3, val := (.func (.func 73) #[] #[.pointer (some ⟨w.heap.size + 1, 0, none⟩), .pointer (some ⟨w.heap.size, 0, none⟩), .pointer (some ⟨w2.heap.size, 0, none⟩), .pointer (some ⟨rb, 0, none⟩)]), born := 2 }] 3 4 (.func (.func 77) #[] #[.pointer (some ⟨w.heap.size + 1, 0, none⟩), .pointer (some ⟨w2.heap.size, 0, none⟩), .pointer (some ⟨rb, 0, none⟩)]) rfl
  simp only [List.push_toArray, List.cons_append, List.nil_append, Nat.reduceAdd] at i1 i2 i3 i4
  have lk := run_look_hit1 _ _ hsz hT hI #[{ key := .int .i64 1, val := (.func (.func 67) #[] #[.pointer (some ⟨w.heap.size, 0, none⟩), .pointer (some ⟨rb, 0, none⟩)]), born := 0 }, { key := .int .i64 2, val := (.func (.func 69) #[] #[.pointer (some ⟨w.heap.size, 0, none⟩), .pointer (some ⟨rb, 0, none⟩), .pointer (some ⟨w2.heap.size, 0, none⟩)]), born := 1 }, { key := .int .i64 3, val := (.func (.func 73) #[] #[.pointer (some ⟨w.heap.size + 1, 0, none⟩), .pointer (some ⟨w.heap.size, 0, none⟩), .pointer (some ⟨w2.heap.size, 0, none⟩), .pointer (some ⟨rb, 0, none⟩)]), born := 2 }, { key := .int .i64 4, val := (.func (.func 77) #[] #[.pointer (some ⟨w.heap.size + 1, 0, none⟩), .pointer (some ⟨w2.heap.size, 0, none⟩), .pointer (some ⟨rb, 0, none⟩)]), born := 3 }] 4 2 1 (.func (.func 69) #[] #[.pointer (some ⟨w.heap.size, 0, none⟩), .pointer (some ⟨rb, 0, none⟩), .pointer (some ⟨w2.heap.size, 0, none⟩)]) rfl
  have HG3 := Lib.hid (show ∀ o1 o2, Grow w2 ((w2.alloc o1).alloc o2) from fun o1 o2 => ((Grow.rfl' w2).allocd o1).allocd o2)
  have HG4 := Lib.hid (show ∀ o1 o2, Grow w ((w2.alloc o1).alloc o2) from fun o1 o2 => HG2.out.step (HG3.out o1 o2))
  have HFB := Lib.hid (show ∀ o2, OneBox ((w2.alloc (.cells #[ofV (rb)] 84)).alloc o2) w2.heap.size (ofV (rb)) from fun o2 => ⟨_, by
    rw [((Grow.rfl' (w2.alloc (.cells #[ofV (rb)] 84))).allocd o2).heapEq (by simp)]
    exact heap_alloc_new w2 _⟩)
  obtain ⟨hrl, -, c2, c3, c4, c5, c6, c7, c0⟩ := HRB.out.cells
  have c1 : w2.cell? ⟨rb, 1, none⟩ = some (.int .i64 2) := by rw [HRB.out.cells.2.1, HK.out]
  have entK3 := entK3
  clear hsz c2 c3 c4 c5 c6 c7 c0
  go_wp2_with fail
  refine (keepsExists nodes _ _ _ _ r _ S (HN.out.grow (HG4.out _ _)) (HNB.out.grow (HG3.out _ _)) (HRB.out.grow (HG3.out _ _)) (HFB.out _)).mono ?_
  rintro e w3 ⟨rfl, hw3⟩
  obtain ⟨b, hb⟩ : ∃ b, (!nodes.any (lacksR r)) = b := ⟨_, rfl⟩
  have HX := Lib.hid (show keepR nodes edges r = b by unfold keepR holdR; rw [HF.out, HK.out]; simpa using hb)
  rw [hb]
  clear hb
  go_wp2
  go_ret
  exact ⟨by rw [HX.out]; rfl, (HG4.out _ _).step hw3⟩

set_option maxRecDepth 100000 in
set_option maxHeartbeats 4000000 in
theorem ruleKeeps3 (nodes : List PNode) (edges : List PEdge) (nv ev : Value) (r : PRule) (w : World) (S : Nat → Prop) (hn : NodesR S w nv nodes) (he : EdgesR S w ev edges) (h64 : ∀ e ∈ edges, (Lit.int .i64 e.from_).wf = true) (hf : formR r = true) (hk : r.kind = 3) :
    Calls Tryz.prog 45 #[nv, ev, r.args] w fun e w' => e = .returned (.bool (keepR nodes edges r)) ∧ Grow w w' := by
  have HN := Lib.hid hn; have HE := Lib.hid he; have H64 := Lib.hid h64; have HF := Lib.hid hf
  obtain ⟨_, _, rfl, _⟩ := SlR.open hn
  obtain ⟨_, _, rfl, _⟩ := SlR.open he
  have HG := Lib.hid (show ∀ o1 o2 o3, Grow w (((w.alloc o1).alloc o2).alloc o3) from fun o1 o2 o3 => (((Grow.rfl' w).allocd o1).allocd o2).allocd o3)
  have HB := Lib.hid (boxes3k w)
  have hmm := @run_makeMap Tryz.prog
  have HK := Lib.hid hk
  clear hn he h64 hf hk
  go_enter Tryz.func45, Tryz.ntmps45
  go_wp2_with fail
  refine (ruleForm r _).mono ?_
  rintro e w2 ⟨rfl, hw2⟩
  rw [HF.out]
  obtain ⟨b1, b2, b3⟩ := HB.out _ _ _ w2 hw2
  have HG2 := Lib.hid ((HG.out _ _ _).step hw2)
  have HRB := Lib.hid (show RuleBox w2 (w.heap.size + 1 + 1) r from b3)
  have HNB := Lib.hid (show OneBox w2 w.heap.size _ from ⟨_, b1⟩)
  have HEB := Lib.hid (show OneBox w2 (w.heap.size + 1) _ from ⟨_, b2⟩)
  clear b1 b2 b3 hw2
  generalize w.heap.size + 1 + 1 = rb at *
  have hsz : (w2.alloc (.cells #[ofV (rb)] 84)).heap.size = w2.heap.size + 1 := by simp
  have hT : Tryz.prog.underlying 131 = some (.map 3 32) := Tryz.underlying131
  have hI : Tryz.prog.underlying 3 = some (.int .i64) := Tryz.underlying3
  have i1 := run_ins _ _ hsz hT hI #[] 0 1 (.func (.func 67) #[] #[.pointer (some ⟨w.heap.size, 0, none⟩), .pointer (some ⟨rb, 0, none⟩)]) rfl
  have i2 := run_ins _ _ hsz hT hI #[{ key := .int .i64 1, val := (.func (.func 67) #[] #[.pointer (some ⟨w.heap.size, 0, none⟩), .pointer (some ⟨rb, 0, none⟩)]), born := 0 }] 1 2 (.func (.func 69) #[] #[.pointer (some ⟨w.heap.size, 0, none⟩), .pointer (some ⟨rb, 0, none⟩), .pointer (some ⟨w2.heap.size, 0, none⟩)]) rfl
  have i3 := run_ins _ _ hsz hT hI #[{ key := .int .i64 1, val := (.func (.func 67) #[] #[.pointer (some ⟨w.heap.size, 0, none⟩), .pointer (some ⟨rb, 0, none⟩)]), born := 0 }, { key := .int .i64 2, val := (.func (.func 69) #[] #[.pointer (some ⟨w.heap.size, 0, none⟩), .pointer (some ⟨rb, 0, none⟩), .pointer (some ⟨w2.heap.size, 0, none⟩)]), born := 1 }] 2 3 (.func (.func 73) #[] #[.pointer (some ⟨w.heap.size + 1, 0, none⟩), .pointer (some ⟨w.heap.size, 0, none⟩), .pointer (some ⟨w2.heap.size, 0, none⟩), .pointer (some ⟨rb, 0, none⟩)]) rfl
  have i4 := run_ins _ _ hsz hT hI #[{ key := .int .i64 1, val := (.func (.func 67) #[] #[.pointer (some ⟨w.heap.size, 0, none⟩), .pointer (some ⟨rb, 0, none⟩)]), born := 0 }, { key := .int .i64 2, val := (.func (.func 69) #[] #[.pointer (some ⟨w.heap.size, 0, none⟩), .pointer (some ⟨rb, 0, none⟩), .pointer (some ⟨w2.heap.size, 0, none⟩)]), born := 1 }, { key := .int .i64 3, val := (.func (.func 73) #[] #[.pointer (some ⟨w.heap.size + 1, 0, none⟩), .pointer (some ⟨w.heap.size, 0, none⟩), .pointer (some ⟨w2.heap.size, 0, none⟩), .pointer (some ⟨rb, 0, none⟩)]), born := 2 }] 3 4 (.func (.func 77) #[] #[.pointer (some ⟨w.heap.size + 1, 0, none⟩), .pointer (some ⟨w2.heap.size, 0, none⟩), .pointer (some ⟨rb, 0, none⟩)]) rfl
  simp only [List.push_toArray, List.cons_append, List.nil_append, Nat.reduceAdd] at i1 i2 i3 i4
  have lk := run_look_hit1 _ _ hsz hT hI #[{ key := .int .i64 1, val := (.func (.func 67) #[] #[.pointer (some ⟨w.heap.size, 0, none⟩), .pointer (some ⟨rb, 0, none⟩)]), born := 0 }, { key := .int .i64 2, val := (.func (.func 69) #[] #[.pointer (some ⟨w.heap.size, 0, none⟩), .pointer (some ⟨rb, 0, none⟩), .pointer (some ⟨w2.heap.size, 0, none⟩)]), born := 1 }, { key := .int .i64 3, val := (.func (.func 73) #[] #[.pointer (some ⟨w.heap.size + 1, 0, none⟩), .pointer (some ⟨w.heap.size, 0, none⟩), .pointer (some ⟨w2.heap.size, 0, none⟩), .pointer (some ⟨rb, 0, none⟩)]), born := 2 }, { key := .int .i64 4, val := (.func (.func 77) #[] #[.pointer (some ⟨w.heap.size + 1, 0, none⟩), .pointer (some ⟨w2.heap.size, 0, none⟩), .pointer (some ⟨rb, 0, none⟩)]), born := 3 }] 4 3 2 (.func (.func 73) #[] #[.pointer (some ⟨w.heap.size + 1, 0, none⟩), .pointer (some ⟨w.heap.size, 0, none⟩), .pointer (some ⟨w2.heap.size, 0, none⟩), .pointer (some ⟨rb, 0, none⟩)]) rfl
  have HG3 := Lib.hid (show ∀ o1 o2, Grow w2 ((w2.alloc o1).alloc o2) from fun o1 o2 => ((Grow.rfl' w2).allocd o1).allocd o2)
  have HG4 := Lib.hid (show ∀ o1 o2, Grow w ((w2.alloc o1).alloc o2) from fun o1 o2 => HG2.out.step (HG3.out o1 o2))
  have HFB := Lib.hid (show ∀ o2, OneBox ((w2.alloc (.cells #[ofV (rb)] 84)).alloc o2) w2.heap.size (ofV (rb)) from fun o2 => ⟨_, by
    rw [((Grow.rfl' (w2.alloc (.cells #[ofV (rb)] 84))).allocd o2).heapEq (by simp)]
    exact heap_alloc_new w2 _⟩)
  obtain ⟨hrl, -, c2, c3, c4, c5, c6, c7, c0⟩ := HRB.out.cells
  have c1 : w2.cell? ⟨rb, 1, none⟩ = some (.int .i64 3) := by rw [HRB.out.cells.2.1, HK.out]
  have entK4 := entK4
  clear hsz c2 c3 c4 c5 c6 c7 c0
  go_wp2_with fail
  refine (keepsEnds nodes edges _ _ _ _ _ _ r _ S (HN.out.grow (HG4.out _ _)) (HE.out.grow (HG4.out _ _)) (HNB.out.grow (HG3.out _ _)) (HEB.out.grow (HG3.out _ _)) (HRB.out.grow (HG3.out _ _)) (HFB.out _)).mono ?_
  rintro e w3 ⟨rfl, hw3⟩
  obtain ⟨b, hb⟩ : ∃ b, (!edges.any (wrongR nodes r)) = b := ⟨_, rfl⟩
  have HX := Lib.hid (show keepR nodes edges r = b by unfold keepR holdR; rw [HF.out, HK.out]; simpa using hb)
  rw [hb]
  clear hb
  go_wp2
  go_ret
  exact ⟨by rw [HX.out]; rfl, (HG4.out _ _).step hw3⟩

set_option maxRecDepth 100000 in
set_option maxHeartbeats 4000000 in
theorem ruleKeeps4 (nodes : List PNode) (edges : List PEdge) (nv ev : Value) (r : PRule) (w : World) (S : Nat → Prop) (hn : NodesR S w nv nodes) (he : EdgesR S w ev edges) (h64 : ∀ e ∈ edges, (Lit.int .i64 e.from_).wf = true) (hf : formR r = true) (hk : r.kind = 4) :
    Calls Tryz.prog 45 #[nv, ev, r.args] w fun e w' => e = .returned (.bool (keepR nodes edges r)) ∧ Grow w w' := by
  have HN := Lib.hid hn; have HE := Lib.hid he; have H64 := Lib.hid h64; have HF := Lib.hid hf
  obtain ⟨_, _, rfl, _⟩ := SlR.open hn
  obtain ⟨_, _, rfl, _⟩ := SlR.open he
  have HG := Lib.hid (show ∀ o1 o2 o3, Grow w (((w.alloc o1).alloc o2).alloc o3) from fun o1 o2 o3 => (((Grow.rfl' w).allocd o1).allocd o2).allocd o3)
  have HB := Lib.hid (boxes3k w)
  have hmm := @run_makeMap Tryz.prog
  have HK := Lib.hid hk
  clear hn he h64 hf hk
  go_enter Tryz.func45, Tryz.ntmps45
  go_wp2_with fail
  refine (ruleForm r _).mono ?_
  rintro e w2 ⟨rfl, hw2⟩
  rw [HF.out]
  obtain ⟨b1, b2, b3⟩ := HB.out _ _ _ w2 hw2
  have HG2 := Lib.hid ((HG.out _ _ _).step hw2)
  have HRB := Lib.hid (show RuleBox w2 (w.heap.size + 1 + 1) r from b3)
  have HNB := Lib.hid (show OneBox w2 w.heap.size _ from ⟨_, b1⟩)
  have HEB := Lib.hid (show OneBox w2 (w.heap.size + 1) _ from ⟨_, b2⟩)
  clear b1 b2 b3 hw2
  generalize w.heap.size + 1 + 1 = rb at *
  have hsz : (w2.alloc (.cells #[ofV (rb)] 84)).heap.size = w2.heap.size + 1 := by simp
  have hT : Tryz.prog.underlying 131 = some (.map 3 32) := Tryz.underlying131
  have hI : Tryz.prog.underlying 3 = some (.int .i64) := Tryz.underlying3
  have i1 := run_ins _ _ hsz hT hI #[] 0 1 (.func (.func 67) #[] #[.pointer (some ⟨w.heap.size, 0, none⟩), .pointer (some ⟨rb, 0, none⟩)]) rfl
  have i2 := run_ins _ _ hsz hT hI #[{ key := .int .i64 1, val := (.func (.func 67) #[] #[.pointer (some ⟨w.heap.size, 0, none⟩), .pointer (some ⟨rb, 0, none⟩)]), born := 0 }] 1 2 (.func (.func 69) #[] #[.pointer (some ⟨w.heap.size, 0, none⟩), .pointer (some ⟨rb, 0, none⟩), .pointer (some ⟨w2.heap.size, 0, none⟩)]) rfl
  have i3 := run_ins _ _ hsz hT hI #[{ key := .int .i64 1, val := (.func (.func 67) #[] #[.pointer (some ⟨w.heap.size, 0, none⟩), .pointer (some ⟨rb, 0, none⟩)]), born := 0 }, { key := .int .i64 2, val := (.func (.func 69) #[] #[.pointer (some ⟨w.heap.size, 0, none⟩), .pointer (some ⟨rb, 0, none⟩), .pointer (some ⟨w2.heap.size, 0, none⟩)]), born := 1 }] 2 3 (.func (.func 73) #[] #[.pointer (some ⟨w.heap.size + 1, 0, none⟩), .pointer (some ⟨w.heap.size, 0, none⟩), .pointer (some ⟨w2.heap.size, 0, none⟩), .pointer (some ⟨rb, 0, none⟩)]) rfl
  have i4 := run_ins _ _ hsz hT hI #[{ key := .int .i64 1, val := (.func (.func 67) #[] #[.pointer (some ⟨w.heap.size, 0, none⟩), .pointer (some ⟨rb, 0, none⟩)]), born := 0 }, { key := .int .i64 2, val := (.func (.func 69) #[] #[.pointer (some ⟨w.heap.size, 0, none⟩), .pointer (some ⟨rb, 0, none⟩), .pointer (some ⟨w2.heap.size, 0, none⟩)]), born := 1 }, { key := .int .i64 3, val := (.func (.func 73) #[] #[.pointer (some ⟨w.heap.size + 1, 0, none⟩), .pointer (some ⟨w.heap.size, 0, none⟩), .pointer (some ⟨w2.heap.size, 0, none⟩), .pointer (some ⟨rb, 0, none⟩)]), born := 2 }] 3 4 (.func (.func 77) #[] #[.pointer (some ⟨w.heap.size + 1, 0, none⟩), .pointer (some ⟨w2.heap.size, 0, none⟩), .pointer (some ⟨rb, 0, none⟩)]) rfl
  simp only [List.push_toArray, List.cons_append, List.nil_append, Nat.reduceAdd] at i1 i2 i3 i4
  have lk := run_look_hit1 _ _ hsz hT hI #[{ key := .int .i64 1, val := (.func (.func 67) #[] #[.pointer (some ⟨w.heap.size, 0, none⟩), .pointer (some ⟨rb, 0, none⟩)]), born := 0 }, { key := .int .i64 2, val := (.func (.func 69) #[] #[.pointer (some ⟨w.heap.size, 0, none⟩), .pointer (some ⟨rb, 0, none⟩), .pointer (some ⟨w2.heap.size, 0, none⟩)]), born := 1 }, { key := .int .i64 3, val := (.func (.func 73) #[] #[.pointer (some ⟨w.heap.size + 1, 0, none⟩), .pointer (some ⟨w.heap.size, 0, none⟩), .pointer (some ⟨w2.heap.size, 0, none⟩), .pointer (some ⟨rb, 0, none⟩)]), born := 2 }, { key := .int .i64 4, val := (.func (.func 77) #[] #[.pointer (some ⟨w.heap.size + 1, 0, none⟩), .pointer (some ⟨w2.heap.size, 0, none⟩), .pointer (some ⟨rb, 0, none⟩)]), born := 3 }] 4 4 3 (.func (.func 77) #[] #[.pointer (some ⟨w.heap.size + 1, 0, none⟩), .pointer (some ⟨w2.heap.size, 0, none⟩), .pointer (some ⟨rb, 0, none⟩)]) rfl
  have HG3 := Lib.hid (show ∀ o1 o2, Grow w2 ((w2.alloc o1).alloc o2) from fun o1 o2 => ((Grow.rfl' w2).allocd o1).allocd o2)
  have HG4 := Lib.hid (show ∀ o1 o2, Grow w ((w2.alloc o1).alloc o2) from fun o1 o2 => HG2.out.step (HG3.out o1 o2))
  have HFB := Lib.hid (show ∀ o2, OneBox ((w2.alloc (.cells #[ofV (rb)] 84)).alloc o2) w2.heap.size (ofV (rb)) from fun o2 => ⟨_, by
    rw [((Grow.rfl' (w2.alloc (.cells #[ofV (rb)] 84))).allocd o2).heapEq (by simp)]
    exact heap_alloc_new w2 _⟩)
  obtain ⟨hrl, -, c2, c3, c4, c5, c6, c7, c0⟩ := HRB.out.cells
  have c1 : w2.cell? ⟨rb, 1, none⟩ = some (.int .i64 4) := by rw [HRB.out.cells.2.1, HK.out]
  have entK5 := entK5
  clear hsz c2 c3 c4 c5 c6 c7 c0
  go_wp2_with fail
  refine (keepsMost edges _ _ _ _ r _ S (HE.out.grow (HG4.out _ _)) H64.out (HEB.out.grow (HG3.out _ _)) (HRB.out.grow (HG3.out _ _)) (HFB.out _)).mono ?_
  rintro e w3 ⟨rfl, hw3⟩
  obtain ⟨b, hb⟩ : ∃ b, (mostR edges r) = b := ⟨_, rfl⟩
  have HX := Lib.hid (show keepR nodes edges r = b by unfold keepR holdR; rw [HF.out, HK.out]; simpa using hb)
  rw [hb]
  clear hb
  go_wp2
  go_ret
  exact ⟨by rw [HX.out]; rfl, (HG4.out _ _).step hw3⟩

theorem ruleKeeps (nodes : List PNode) (edges : List PEdge) (nv ev : Value) (r : PRule) (w : World) (S : Nat → Prop) (hn : NodesR S w nv nodes) (he : EdgesR S w ev edges) (h64 : ∀ e ∈ edges, (Lit.int .i64 e.from_).wf = true) :
    Calls Tryz.prog 45 #[nv, ev, r.args] w fun e w' => e = .returned (.bool (keepR nodes edges r)) ∧ Grow w w' := by
  cases hf : formR r with
  | false => exact ruleKeeps0 nodes edges nv ev r w S hn he h64 hf
  | true =>
    rcases formR_kind hf with hk | hk | hk | hk
    · exact ruleKeeps1 nodes edges nv ev r w S hn he h64 hf hk
    · exact ruleKeeps2 nodes edges nv ev r w S hn he h64 hf hk
    · exact ruleKeeps3 nodes edges nv ev r w S hn he h64 hf hk
    · exact ruleKeeps4 nodes edges nv ev r w S hn he h64 hf hk
end Go.Hg

namespace Go.Hg
open Go.RowKit Go.Proofs

def GAt (gv : Value) (N : List PNode) (E : List PEdge) (w : World) : Prop := ∀ w', Grow w w' →
  (Calls Tryz.prog 46 #[gv] w' fun e w2 => ∃ v, e = .returned v ∧ NodesR (fun b => w'.heap.size ≤ b) w2 v N ∧ Grow w' w2) ∧
  (Calls Tryz.prog 47 #[gv] w' fun e w2 => ∃ v, e = .returned v ∧ EdgesR (fun b => w'.heap.size ≤ b) w2 v E ∧ Grow w' w2)
theorem GAt.grow {gv : Value} {N : List PNode} {E : List PEdge} {w w1 : World} (h : GAt gv N E w) (g : Grow w w1) : GAt gv N E w1 := fun w' g' => h w' (g.step g')
theorem gAt_of {S : Nat → Prop} {B : Nat} {G : PGraph} {w : World} (h : GraphRd 106 S w B G) (hi : GInv G) : GAt (.pointer (some ⟨B, 0, none⟩)) G.nodes G.edges w := fun w' g =>
  ⟨(graphNodes S B G w' (h.grow g) (by have := hi.items; omega) (fun x hx => by have := (hi.nodesB x hx).2.2; omega)).mono fun e w2 ⟨v, ob, he, ho, hob, hg⟩ =>
    ⟨v, he, SlR.sub (ho.toSl (S := fun b => w'.heap.size ≤ b) hob) (fun _ h => h) (fun x r _ hR => hR.sub (fun b hb => hb.1)), hg⟩,
   (graphEdges S B G w' (h.grow g) (by have := hi.items; omega) (fun x hx => by have := (hi.edgesB x hx).2.2; omega)).mono fun e w2 ⟨v, ob, he, ho, hob, hg⟩ =>
    ⟨v, he, SlR.sub (ho.toSl (S := fun b => w'.heap.size ≤ b) hob) (fun _ h => h) (fun x r _ hR => hR.sub (fun b hb => hb.1)), hg⟩⟩
theorem nodesT {S : Nat → Prop} {w : World} {v : Value} {l : List PNode} (h : NodesR S w v l) : NodesR (fun _ => True) w v l := SlR.sub h (fun _ _ => trivial) (fun _ _ _ hR => hR.sub (fun _ _ => trivial))
theorem edgesT {S : Nat → Prop} {w : World} {v : Value} {l : List PEdge} (h : EdgesR S w v l) : EdgesR (fun _ => True) w v l := SlR.sub h (fun _ _ => trivial) (fun _ _ _ hR => hR.sub (fun _ _ => trivial))
end Go.Hg

namespace Go.Hg
open Go.RowKit Go.Proofs

def IdsP (P : Nat → Prop) (w : World) (v : Value) (l : List Int) : Prop := ∃ ob, IdsO w v l ob ∧ ∀ q, ob = some q → P q
theorem IdsP.nil (P : Nat → Prop) (w : World) : IdsP P w (.slice none 0 0) [] := ⟨none, OwnS.nil w _ 1, by simp⟩
theorem IdsP.grow {P : Nat → Prop} {w w' : World} {v : Value} {l : List Int} (h : IdsP P w v l) (g : Grow w w') : IdsP P w' v l := by
  obtain ⟨ob, h1, h2⟩ := h
  exact ⟨ob, OwnS.grow h1 g, h2⟩
theorem IdsP.imp {P P' : Nat → Prop} {w : World} {v : Value} {l : List Int} (h : IdsP P w v l) (hP : ∀ b, b < w.heap.size → P b → P' b) : IdsP P' w v l := by
  obtain ⟨ob, h1, h2⟩ := h
  exact ⟨ob, h1, fun q hq => hP q (OwnS.lt h1 q hq) (h2 q hq)⟩
theorem IdsP.isSlice {P : Nat → Prop} {w : World} {v : Value} {l : List Int} (h : IdsP P w v l) : ∃ oa cap, v = .slice oa l.length cap ∧ l.length ≤ cap ∧ cap ≤ maxLen := by
  obtain ⟨ob, h1, -⟩ := h
  exact OwnS.isSlice h1
theorem IdsP.toW {P : Nat → Prop} {w : World} {v : Value} {l : List Int} {n : Nat} (h : IdsP P w v l) (hn : ∀ b, P b → n ≤ b) : IdsW n w v l := by
  obtain ⟨ob, h1, h2⟩ := h
  exact ⟨ob, h1, fun q hq => hn q (h2 q hq)⟩
theorem wpList_append_P {w : World} {ops : Array Oper} {rest : List Oper} {o : Oper} {a : Act} {Q : Exit → Act → World → Prop} (hgd : o.guard = none) (s x : Operand) (t : TypeId)
    (ho : o.op = .call { callee := .builtin .append, args := #[s, x], argTypes := #[t, t] }) (ht : Tryz.prog.underlying t = some (.slice 2)) (P : Nat → Prop) (v : Value) (l : List Int) (hs : a.eval s = v) (h : IdsP P w v l)
    (y : Int) (nb : Nat) (hx : a.eval x = .slice (some ⟨nb, 0, none⟩) 1 1) (hrd : Rd w 1 (.slice (some ⟨nb, 0, none⟩) 1 1) 1 [.int .i64 y]) (hP : ∀ b, w.heap.size ≤ b → P b) (hl : l.length + 1 ≤ 8796093022208)
    (hK : ∀ v' w', IdsP P w' v' (l ++ [y]) → Mod P w w' → w.heap.size ≤ w'.heap.size → wpList Tryz.prog ops Q rest (a.put o.dst v') w') : wpList Tryz.prog ops Q (o :: rest) a w := by
  obtain ⟨iP, hiP, hzP0, hzP1, hzP2⟩ := info_parts infoInt
  obtain ⟨ob, h1, h2⟩ := h
  refine wpList_append_S w hgd s x t ho 2 iP _ 1 8 ht hiP hzP0 hzP1 hzP2 rfl (by decide) v l.length _ ob hs h1 _ hx 1 _ hrd (one1 _ rfl) (by unfold maxLen; omega) (by omega) ?_
  intro v' w' ob' k1 k2 k3 _
  refine hK v' w' ⟨ob', ?_, ?_⟩ (k2.mono fun q hq => h2 q hq) k2.size
  · unfold IdsO
    rw [List.length_append, List.map_append]
    exact k1
  · intro q hq
    rcases k3 with k3 | ⟨g, k3, hg⟩
    · exact h2 q (k3 ▸ hq)
    · rw [k3] at hq; cases hq; exact hP _ hg
theorem EdgesR.cut {S : Nat → Prop} {w : World} {v : Value} {l : List PEdge} (h : EdgesR S w v l) : EdgesR (fun b => S b ∧ b < w.heap.size) w v l := by
  obtain ⟨a, cap, rows, h1, h2, h3, h4, h5, h6⟩ := h
  refine ⟨a, cap, rows, h1, h2, h3, h4, fun k x r hx hr => ?_, fun h0 => ?_⟩
  · obtain ⟨pv, e, hp⟩ := h5 k x r hx hr
    exact ⟨pv, e, hp.cut⟩
  · obtain ⟨b, off, e, hS, hb, hc⟩ := h6 h0
    exact ⟨b, off, e, ⟨hS, hb⟩, hb, hc⟩
theorem EdgesR.mod {F S : Nat → Prop} {w w' : World} {v : Value} {l : List PEdge} (h : EdgesR S w v l) (g : Mod F w w') (hd : ∀ b, S b → ¬ F b) : EdgesR S w' v l :=
  SlR.keep h (fun b hS hb => g.block b hb (hd b hS)) g.size (fun _ _ _ hR => hR.mod g hd)

set_option maxRecDepth 100000 in
set_option maxHeartbeats 4000000 in
theorem buildIds (gv : Value) (G : PGraph) (f : Int) (w : World) (hg : GAt gv G.nodes G.edges w) (hb : G.nodes.length + G.edges.length ≤ 4096) :
    Calls Tryz.prog 42 #[gv, .int .i64 f] w fun e w' => ∃ v, e = .returned v ∧ IdsR (fun b => w.heap.size ≤ b) w' v (idsG G f) ∧ Grow w w' := by
  obtain ⟨W1, hW1⟩ : ∃ W1, w.alloc (.cells #[.int .i64 f] 2) = W1 := ⟨_, rfl⟩
  have HG1 := Lib.hid (show Grow w W1 from hW1 ▸ (Grow.rfl' w).allocd _)
  have HZ1 := Lib.hid (show W1.heap.size = w.heap.size + 1 by rw [← hW1]; simp)
  have HFC := Lib.hid (show W1.cell? ⟨w.heap.size, 0, none⟩ = some (.int .i64 f) by rw [← hW1]; exact (blk_cell (heap_alloc_new w _) 0).trans rfl)
  have HGA := Lib.hid (hg.grow HG1.out); have HB := Lib.hid hb
  have HIDG := Lib.hid (show ((G.nodes.map (·.id) ++ G.edges.map (·.id)).filter fun x => decide (f ≤ x)).mergeSort (fun x y => decide (x ≤ y)) = idsG G f from rfl)
  clear hg hb
  obtain ⟨L, hL⟩ : ∃ L, idsG G f = L := ⟨_, rfl⟩
  obtain ⟨N, hN⟩ : ∃ N, G.nodes = N := ⟨_, rfl⟩
  obtain ⟨E, hE⟩ : ∃ E, G.edges = E := ⟨_, rfl⟩
  rw [hN, hE] at HGA HB HIDG
  rw [hL] at HIDG
  rw [hL]
  clear hN hE hL
  go_enter Tryz.func42, Tryz.ntmps42
  go_wp2_with fail
  clear hW1
  refine ((HGA.out W1 (Grow.rfl' _)).1).mono ?_
  rintro e w2 ⟨nv, rfl, hn, g2⟩
  have HG2 := Lib.hid g2
  obtain ⟨na, nc, rfl, hal, hac, hA⟩ := SlR.open hn
  unfold maxLen at hac
  have HA := Lib.hid hA
  have hNl : N.length ≤ 4096 := by have := HB.out; omega
  clear hn hA g2
  go_wp2_with fail
  go_loopg [5, 13] N.length (fun g vo i wr => ∃ k : Nat, k ≤ N.length ∧ g = N.length - k ∧ i = .int .i64 k ∧ IdsP (fun b => w2.heap.size ≤ b) wr vo ((N.take k).map (·.id)) ∧ Grow w2 wr)
  case atStart => exact ⟨0, by omega, by omega, rfl, IdsP.nil _ _, Grow.rfl' w2⟩
  case round =>
    obtain ⟨k, hk, rfl, rfl, hown, hgr⟩ := hrel
    have HOWN := Lib.hid hown; have HGR := Lib.hid hgr
    obtain ⟨oo, co, rfl, hoc, hom⟩ := hown.isSlice
    by_cases hkl : k < N.length
    · obtain ⟨ba, oa, ra, rfl, hSa, hba, hRa, hca⟩ := HA.out k N[k] (List.getElem?_eq_getElem hkl)
      obtain ⟨pva, hba', a0, a1, a2, hpa⟩ := hRa.at hba hgr hca
      obtain ⟨pa, pc, rfl⟩ := hpa.isSlice
      clear hca hRa hSa hba hgr hown hpa hoc hom
      have HT := Lib.hid (show (N.take (k + 1)).map (·.id) = (N.take k).map (·.id) ++ [N[k].id] by rw [List.take_succ_eq_append_getElem hkl, List.map_append]; rfl)
      have HFL := Lib.hid (show ((N.take k).map (·.id)).length ≤ 4096 by simp; omega)
      generalize N[k] = p at *
      generalize (N.take k).map (·.id) = fl at *
      have HW := Lib.hid (show ∀ o1 o2, Grow wr ((wr.alloc o1).alloc o2) from fun o1 o2 => ((Grow.rfl' wr).allocd o1).allocd o2)
      have HSZ := Lib.hid HGR.out.size
      go_wp2_with (at_builtin; go_must (refine wpList_append_P rfl (.tmp 17) (.tmp 20) 25 rfl Tryz.underlying25 (fun b => w2.heap.size ≤ b) _ fl rfl (HOWN.out.grow (HW.out _ _)) p.id (wr.heap.size + 1) rfl (rd1 _ _ _ (by simp)) (by have := HSZ.out; simp; omega) (by have := HFL.out; omega) ?_))
      intro v' w5 h1 h2 h3
      have H5 := Lib.hid (show IdsP (fun b => w2.heap.size ≤ b) w5 v' ((N.take (k + 1)).map (·.id)) by rw [HT.out]; exact h1)
      have HG5 := Lib.hid (show Grow w2 w5 from (HGR.out.step (HW.out _ _)).modd h2 (fun _ h => h))
      clear h1 h2 h3
      go_wp2_with fail
      go_roundg (N.length - (k + 1))
      case measure => omega
      case rel => exact ⟨k + 1, by omega, rfl, by go_num, H5.out, HG5.out⟩
    · have hkk : N.take k = N := List.take_of_length_le (by omega)
      rw [hkk] at HOWN
      clear hown hgr HA
      simp only [hkk, List.length_map] at *
      obtain ⟨wA, hwA⟩ : ∃ wA : World, wA = wr := ⟨_, rfl⟩
      rw [← hwA] at HOWN HGR
      rw [← hwA]
      clear hwA hkk
      go_wp2_with fail
      refine ((HGA.out wA (HG2.out.step HGR.out)).2).mono ?_
      rintro e w3 ⟨ev, rfl, he, g3⟩
      have HG3 := Lib.hid (HGR.out.step g3)
      have hs3 := g3.size
      have hs2 := HGR.out.size
      obtain ⟨P, hP⟩ : ∃ P : Nat → Prop, ∀ b, P b ↔ ((w2.heap.size ≤ b ∧ b < wA.heap.size) ∨ w3.heap.size ≤ b) := ⟨_, fun b => Iff.rfl⟩
      have HP3 := Lib.hid (show ∀ b, w3.heap.size ≤ b → P b from fun b hb => (hP b).2 (.inr hb))
      have HOWN3 := Lib.hid (show IdsP P w3 (.slice oo N.length co) (N.map (·.id)) from (HOWN.out.imp (P' := P) (fun b hb h => (hP b).2 (.inl ⟨h, hb⟩))).grow g3)
      have HP2 := Lib.hid (show ∀ b, P b → w2.heap.size ≤ b from fun b hb => by have := (hP b).1 hb; omega)
      have HEM := Lib.hid (show ∀ w', Mod P w3 w' → EdgesR (fun b => wA.heap.size ≤ b ∧ b < w3.heap.size) w' ev E from fun w' hm => (EdgesR.cut he).mod hm (fun b hb h => by have := (hP b).1 h; omega))
      obtain ⟨ea, ec, rfl, hel, hec, -⟩ := SlR.open he
      unfold maxLen at hec
      have hEl : E.length ≤ 4096 := by have := HB.out; omega
      clear he g3 HGA hP HOWN HGR
      go_wp2_with fail
      go_loopg [5, 26] E.length (fun g vo i wr => ∃ k : Nat, k ≤ E.length ∧ g = E.length - k ∧ i = .int .i64 k ∧ IdsP P wr vo (N.map (·.id) ++ (E.take k).map (·.id)) ∧ Mod P w3 wr)
      case atStart => exact ⟨0, by omega, by omega, rfl, by simpa using HOWN3.out, Mod.rfl' _ w3⟩
      case round =>
        obtain ⟨k, hk, rfl, rfl, hown, hgr⟩ := hrel
        have HOWN := Lib.hid hown; have HGR := Lib.hid hgr
        obtain ⟨oo2, co2, rfl, hoc2, hom2⟩ := hown.isSlice
        by_cases hkl : k < E.length
        · obtain ⟨_, _, hee, -, -, hA⟩ := SlR.open (HEM.out wr hgr)
          cases hee
          obtain ⟨ba, oa, ra, rfl, hSa, hba, hRa, hca⟩ := hA k E[k] (List.getElem?_eq_getElem hkl)
          obtain ⟨pva, hba', a0, a1, a2, a3, a4, hpa⟩ := hRa.at hba (Grow.rfl' wr) hca
          obtain ⟨pa, pc, rfl⟩ := hpa.isSlice
          clear hca hRa hSa hba hgr hown hpa hoc2 hom2 hA
          have HT := Lib.hid (show N.map (·.id) ++ (E.take (k + 1)).map (·.id) = (N.map (·.id) ++ (E.take k).map (·.id)) ++ [E[k].id] by rw [List.take_succ_eq_append_getElem hkl, List.map_append, List.append_assoc]; rfl)
          have HFL := Lib.hid (show (N.map (·.id) ++ (E.take k).map (·.id)).length ≤ 8192 by simp; omega)
          generalize E[k] = p at *
          generalize N.map (·.id) ++ (E.take k).map (·.id) = fl at *
          have HW := Lib.hid (show ∀ o1 o2, Grow wr ((wr.alloc o1).alloc o2) from fun o1 o2 => ((Grow.rfl' wr).allocd o1).allocd o2)
          have HSZ := Lib.hid HGR.out.size
          go_wp2_with (at_builtin; go_must (refine wpList_append_P rfl (.tmp 30) (.tmp 33) 25 rfl Tryz.underlying25 P _ fl rfl (HOWN.out.grow (HW.out _ _)) p.id (wr.heap.size + 1) rfl (rd1 _ _ _ (by simp)) (fun b hb => HP3.out b (by have := HSZ.out; simp at hb; omega)) (by have := HFL.out; omega) ?_))
          intro v' w5 h1 h2 h3
          have H5 := Lib.hid (show IdsP P w5 v' (N.map (·.id) ++ (E.take (k + 1)).map (·.id)) by rw [HT.out]; exact h1)
          have HG5 := Lib.hid (show Mod P w3 w5 from (HGR.out.step (Mod.of_grow (HW.out _ _))).step h2)
          clear h1 h2 h3
          go_wp2_with fail
          go_roundg (E.length - (k + 1))
          case measure => omega
          case rel => exact ⟨k + 1, by omega, rfl, by go_num, H5.out, HG5.out⟩
        · have hYE : N.map (·.id) ++ (E.take k).map (·.id) = N.map (·.id) ++ E.map (·.id) := by rw [List.take_of_length_le (by omega)]
          have HLF := Lib.hid (show ((N.map (·.id) ++ E.map (·.id)).filter fun x => decide (f ≤ x)).length ≤ 1099511627776 from Nat.le_trans (List.length_filter_le _ _) (by simp; omega))
          rw [← hYE] at HLF HIDG
          clear hYE
          generalize N.map (·.id) ++ (E.take k).map (·.id) = Y at *
          have HWR := Lib.hid (show Grow w2 wr from HG3.out.modd hgr HP2.out)
          have HIH := Lib.hid (HOWN.out.toW HP2.out).toH
          have hs2w := HWR.out.size
          have HCF := Lib.hid (show wr.cell? ⟨w.heap.size, 0, none⟩ = some (.int .i64 f) from ((HG2.out.step HWR.out).cell (p := ⟨w.heap.size, 0, none⟩) (by have := HZ1.out; simp; omega)).trans HFC.out)
          have HN1 := Lib.hid (show w.heap.size < w2.heap.size by have := HG2.out.size; have := HZ1.out; omega)
          clear hown hgr HEM
          go_wp2_with fail
          refine (deleteIds w2.heap.size w.heap.size f _ _ wr HIH.out HN1.out hs2w HCF.out).mono ?_
          rintro e w6 ⟨v6, rfl, h6, g6⟩
          have HI6 := Lib.hid h6; have HG6 := Lib.hid (show Grow w2 w6 from HWR.out.modd g6 (fun _ h => h))
          clear h6 g6
          go_wp2_with fail
          refine (sortIds w2.heap.size v6 _ w6 HI6.out HLF.out).mono ?_
          rintro e w7 ⟨rfl, h7, g7⟩
          have HI7 := Lib.hid (show IdsH w2.heap.size w7 v6 L by rw [← HIDG.out]; exact h7)
          have HG7 := Lib.hid (show Grow w2 w7 from HG6.out.modd g7 (fun _ h => h))
          clear h7 g7
          go_wp2
          go_ret
          exact ⟨_, rfl, SlR.sub HI7.out.toR (fun b hb => by have := HN1.out; omega) (fun _ _ _ h => h), HG1.out.step (HG2.out.step HG7.out)⟩
end Go.Hg

namespace Go.Hg
open Go.RowKit Go.Proofs

def OwnN {α : Type} (e : TypeId) (sz : Nat) (R : α → List Value → Prop) (n : Nat) (w : World) (v : Value) (l : List α) : Prop := ∃ ob, OwnL w e sz R v l ob ∧ ∀ q, ob = some q → n ≤ q
section
variable {α : Type} {e : TypeId} {sz : Nat} {R : α → List Value → Prop} {n : Nat} {w w' : World} {v : Value} {l : List α}
theorem OwnN.nil (n : Nat) (w : World) : OwnN e sz R n w (.slice none 0 0) [] := ⟨none, OwnL.nil w e sz R, by simp⟩
theorem OwnN.grow (h : OwnN e sz R n w v l) (g : Grow w w') : OwnN e sz R n w' v l := by
  obtain ⟨ob, h1, h2⟩ := h
  exact ⟨ob, h1.keep (fun q hq => g.heapEq (h1.lt q hq)) (fun _ _ _ h => h), h2⟩
theorem OwnN.mod {F : Nat → Prop} (h : OwnN e sz R n w v l) (g : Mod F w w') (hF : ∀ k, n ≤ k → ¬ F k) : OwnN e sz R n w' v l := by
  obtain ⟨ob, h1, h2⟩ := h
  exact ⟨ob, h1.keep (fun q hq => g.block q (h1.lt q hq) (hF q (h2 q hq))) (fun _ _ _ h => h), h2⟩
theorem OwnN.isSlice (h : OwnN e sz R n w v l) : ∃ oa cap, v = .slice oa l.length cap ∧ l.length ≤ cap ∧ cap ≤ maxLen := by
  obtain ⟨ob, ⟨rows, _, _, h1⟩, _⟩ := h
  exact OwnS.isSlice h1
theorem OwnN.toR (h : OwnN e sz R n w v l) : SlR (fun b => n ≤ b) w sz R v l := by
  obtain ⟨ob, h1, h2⟩ := h
  exact h1.toSl h2
theorem OwnN.imp {R' : α → List Value → Prop} (h : OwnN e sz R n w v l) (hR : ∀ x r, x ∈ l → R x r → R' x r) : OwnN e sz R' n w v l := by
  obtain ⟨ob, h1, h2⟩ := h
  exact ⟨ob, h1.keep (fun _ _ => rfl) hR, h2⟩
end
end Go.Hg

namespace Go.Hg
open Go.RowKit Go.Proofs

theorem tchF_fdel {l : List Int} (hl : l.Nodup) {k : Nat} (hk : k < l.length) : fdel (tchF (l.drop k)) l[k] = tchF (l.drop (k + 1)) := by
  funext y
  unfold fdel tchF
  have hd : l.drop k = l[k] :: l.drop (k + 1) := List.drop_eq_getElem_cons hk
  have hn : (l[k] :: l.drop (k + 1)).Nodup := hd ▸ hl.sublist (List.drop_sublist k l)
  rw [hd]
  by_cases h : y = l[k]
  · subst h
    rw [if_pos rfl, if_neg (List.nodup_cons.1 hn).1]
  · rw [if_neg h]
    simp only [List.mem_cons, h, false_or]
theorem SlR.at1 {S : Nat → Prop} {w : World} {v : Value} {l : List Int} (h : IdsR S w v l) : ∃ a cap, v = .slice a l.length cap ∧ l.length ≤ cap ∧ cap ≤ maxLen ∧ ∀ k x, l[k]? = some x → ∃ b o, a = some (⟨b, o, none⟩ : Addr) ∧ S b ∧ b < w.heap.size ∧ w.cell? ⟨b, o + k, none⟩ = some (.int .i64 x) := by
  obtain ⟨a, cap, h1, h2, h3, h4⟩ := SlR.open h
  refine ⟨a, cap, h1, h2, h3, fun k x hx => ?_⟩
  obtain ⟨b, o, r, e1, hS, hb, hR, hc⟩ := h4 k x hx
  have h0 := hc 0 (.int .i64 x) (by rw [show r = [.int .i64 x] from hR]; rfl)
  rw [Nat.mul_one, Nat.add_zero] at h0
  exact ⟨b, o, e1, hS, hb, h0⟩

theorem JobOk.setPos {S : Nat → Prop} {w : World} {B : Nat} {J : PJob} (h : JobOk S w B J) (z : Int) : JobOk S (w.setCell ⟨B, 9, none⟩ (.int .i64 z)) B { J with pos := z } ∧ Mod S w (w.setCell ⟨B, 9, none⟩ (.int .i64 z)) := by
  obtain ⟨cb, mb, s, r, tm, h1, h2, h3, h4, h5, h6, h7, h8, h9⟩ := h
  obtain ⟨a, m⟩ := jobSetPos h7 z
  exact ⟨⟨cb, mb, s, r, tm, h1, h2, h3, h4, h5, h6, a, (m.block cb (blk_lt h8) (fun e => h4 e.symm)).trans h8, h9.mod m (fun e => h5 e.symm)⟩, m.mono fun b hb => hb ▸ h1⟩

set_option maxRecDepth 100000 in
set_option maxHeartbeats 8000000 in
theorem jobStep (S SG : Nat → Prop) (B BG : Nat) (J : PJob) (G : PGraph) (w : World) (h : JobOk S w B J) (hi : JobInv J) (hg : GraphOk 106 SG w BG G) (hG : GInv G) (hsep : ∀ b, SG b → ¬ S b) :
    Calls Tryz.prog 14 #[.pointer (some ⟨B, 0, none⟩), .pointer (some ⟨BG, 0, none⟩)] w fun e w' => e = .returned (.bool (endedJ (stepJ G J) G.next)) ∧ JobOk S w' B (stepJ G J) ∧ Mod S w w' := by
  obtain ⟨cb, mb, s, r, tm, hS1, hS2, hS3, hn1, hn2, hn3, hB, hcb, hm⟩ := h
  have HI := Lib.hid hi; have HG := Lib.hid hg; have HGI := Lib.hid hG; have HSEP := Lib.hid hsep
  have HINV := Lib.hid (stepJ_inv hG hi)
  have HND := Lib.hid (show J.tch.Nodup from hi.2.2.2.2.1.imp (fun {a b} hab => by omega))
  have HTL := Lib.hid (show J.tch.length ≤ 4096 from hi.2.2.2.2.2.1)
  obtain ⟨hc1, hc2, -⟩ := hi
  have HB := Lib.hid hB; have HCB := Lib.hid hcb; have HM := Lib.hid hm
  obtain ⟨-, c8, c9, c10, c11⟩ := jobB_of hB
  have hbl := blk_lt hB
  clear hg hG hsep hB hcb hm
  go_enter Tryz.func14, Tryz.ntmps14
  go_wp2_with fail
  refine (mapsKeys mb w).mono ?_
  rintro e w1 ⟨rfl, rfl⟩
  go_wp2_with fail
  refine (slicesSorted mb 4096 _ w HM.out (by omega) (fun x hx => HI.out.2.2.2.2.2.2 x (by by_cases h : x ∈ J.tch; exact h; exact absurd (by simp [tchF, h]) hx))).mono ?_
  rintro e w1 ⟨v, L, rfl, hL, hids, g1⟩
  obtain rfl : L = J.tch := hL.uniq (p' := fun y => y ∈ J.tch) ⟨HI.out.2.2.2.2.1, fun y => Iff.rfl⟩ (fun y => by by_cases h : y ∈ J.tch <;> simp [tchF, h])
  clear hL
  have HB1 := Lib.hid ((g1.heapEq hbl).trans HB.out); have HCB1 := Lib.hid ((g1.heapEq (blk_lt HCB.out)).trans HCB.out); have HM1 := Lib.hid (HM.out.grow g1)
  have HG1 := Lib.hid g1
  obtain ⟨c, hcN⟩ : ∃ c : Nat, J.chunk = (c : Int) := ⟨J.chunk.toNat, by omega⟩
  have hcl : 1 ≤ c ∧ c ≤ 1024 := by omega
  obtain ⟨m, hmN⟩ : ∃ m : Nat, m = min c J.tch.length := ⟨_, rfl⟩
  have hmc : m ≤ c ∧ m ≤ J.tch.length ∧ (m < c → J.tch.length = m) := by omega
  have HSA := Lib.hid (show m = c → stepJ G J = { J with tch := J.tch.drop m } from fun h => by
    unfold stepJ
    simp only [hcN, Int.toNat_natCast]
    rw [← hmN, if_neg (by omega)])
  have HSB := Lib.hid (show m < c → c - m < (idsG G J.pos).length → ∀ x, (idsG G J.pos)[c - m - 1]? = some x → stepJ G J = { J with tch := J.tch.drop m, pos := x + 1 } from fun h hx x he => by
    unfold stepJ
    simp only [hcN, Int.toNat_natCast]
    rw [← hmN, if_pos h, if_pos hx, List.getD_eq_getElem?_getD, he]
    rfl)
  have HSC := Lib.hid (show m < c → (idsG G J.pos).length ≤ c - m → stepJ G J = { J with tch := J.tch.drop m, pos := G.next } from fun h hx => by
    unfold stepJ
    simp only [hcN, Int.toNat_natCast]
    rw [← hmN, if_pos h, if_neg (by omega)])
  obtain ⟨av, cv, rfl, hlv, hcv, hA⟩ := hids.at1
  unfold maxLen at hcv
  have HA := Lib.hid hA
  rw [hcN] at c8 hc1 hc2
  have HCN := Lib.hid hcN
  have HB1C := Lib.hid (show ∀ w', Grow w w' → w'.cell? ⟨B, 8, none⟩ = some (.int .i64 (c : Int)) ∧ w'.cell? ⟨B, 9, none⟩ = some (.int .i64 J.pos) ∧ w'.cell? ⟨B, 11, none⟩ = some (.map (some mb)) from fun w' g => ⟨(g.cell (p := ⟨B, 8, none⟩) hbl).trans c8, (g.cell (p := ⟨B, 9, none⟩) hbl).trans c9, (g.cell (p := ⟨B, 11, none⟩) hbl).trans c11⟩)
  clear hids g1 hA hcN c8 c9 c10 c11
  obtain ⟨d8, d9, d11⟩ := HB1C.out w1 HG1.out
  have hbl1 := blk_lt HB1.out
  go_upto_region 4 with fail
  go_cut [5] (fun v wx => v = .slice av m cv ∧ wx = w1)
  case first =>
    by_cases hlt : c < J.tch.length
    · obtain rfl : m = c := by omega
      clear hmN
      go_wp2_with fail
      go_meet
      exact ⟨by congr 1; omega, rfl⟩
    · obtain rfl : m = J.tch.length := by omega
      clear hmN
      go_wp2_with fail
      go_meet
      exact ⟨by congr 1; omega, rfl⟩
  case rest =>
    clear hmN
    obtain ⟨rfl, rfl⟩ := hcut
    obtain ⟨wq, rfl⟩ : ∃ wq, wq = wc := ⟨_, rfl⟩
    have hmb : mb < w.heap.size := HM.out.lt
    have HW1 := Lib.hid HG1.out.size
    have HAM := Lib.hid (show ∀ wr, Mod (fun b => b = mb) wq wr → ∀ k x, J.tch[k]? = some x → ∃ b o, av = some (⟨b, o, none⟩ : Addr) ∧ b < wr.heap.size ∧ wr.cell? ⟨b, o + k, none⟩ = some (.int .i64 x) from fun wr g k x hx => by
      obtain ⟨b, o, e1, hS, hb, h0⟩ := HA.out k x hx
      exact ⟨b, o, e1, Nat.lt_of_lt_of_le hb g.size, (World.cell?_of_block (a := ⟨b, o + k, none⟩) (g.block b hb (by show ¬ b = mb; omega))).trans h0⟩)
    clear HA
    go_wp2_with fail
    go_loopg [33] m (fun g iv wr => ∃ k : Nat, k ≤ m ∧ g = m - k ∧ iv = .int .i64 k ∧ MapI wr mb (tchF (J.tch.drop k)) 4096 ∧ Mod (fun b => b = mb) wq wr)
    case atStart => exact ⟨0, by omega, by omega, rfl, by simpa using HM1.out, Mod.rfl' _ _⟩
    case round =>
      obtain ⟨k, hk, rfl, rfl, hmr, hgr⟩ := hrel
      have HMR := Lib.hid hmr; have HGR := Lib.hid hgr
      have hBr := (hgr.block B hbl1 hn2).trans HB1.out
      have HBR := Lib.hid hBr
      obtain ⟨-, e8, e9, -, e11⟩ := jobB_of hBr
      rw [HCN.out] at e8
      clear hmr hBr
      by_cases hkl : k < m
      · have hkT : k < J.tch.length := by omega
        obtain ⟨ba, oa, rfl, hba, hx0⟩ := HAM.out wr hgr k J.tch[k] (List.getElem?_eq_getElem hkT)
        have HFD := Lib.hid (tchF_fdel HND.out hkT)
        clear hgr
        generalize J.tch[k] = x at *
        go_wp2_with (at_delete; go_must (refine wpList_dropI _ rfl (.tmp 40) (.tmp 41) 86 2 rfl 3 Tryz.underlying86 Tryz.underlying2 mb 4096 _ rfl HMR.out x rfl ?_))
        intro w5 h1 h2 h3
        have HM5 := Lib.hid (show MapI w5 mb (tchF (J.tch.drop (k + 1))) 4096 by rw [← HFD.out]; exact h1)
        have HG5 := Lib.hid (show Mod (fun b => b = mb) wq w5 from HGR.out.step h2)
        clear h1 h2 h3
        go_wp2_with fail
        go_roundg (m - (k + 1))
        case measure => omega
        case rel => exact ⟨k + 1, by omega, rfl, by go_num, HM5.out, HG5.out⟩
      · obtain rfl : k = m := by omega
        have HGK := Lib.hid (show GraphOk 106 SG wr BG G from (HG.out.grow HG1.out).keep hgr (fun b hb e => HSEP.out b hb (by show S b; have e2 : b = mb := e; rw [e2]; exact hS3)))
        have HMW := Lib.hid (show Mod S w wr from (Mod.of_grow HG1.out).step (hgr.mono (fun b hb => by have e2 : b = mb := hb; rw [e2]; exact hS3)))
        have HCBR := Lib.hid ((hgr.block cb (blk_lt HCB1.out) hn3).trans HCB1.out)
        have HJR := Lib.hid (show JobOk S wr B { J with tch := J.tch.drop k } from ⟨cb, mb, s, r, tm, hS1, hS2, hS3, hn1, hn2, hn3, HBR.out, HCBR.out, HMR.out⟩)
        have hblr := blk_lt HBR.out
        clear hgr HAM
        obtain ⟨wR, hwR⟩ : ∃ wR : World, wR = wr := ⟨_, rfl⟩
        subst hwR
        by_cases hlt : k < c
        · obtain ⟨q, rfl⟩ : ∃ q : Nat, c = k + q := ⟨c - k, by omega⟩
          have hq : 0 < q ∧ q ≤ 1024 := by omega
          go_wp2_with fail
          refine (buildIds (.pointer (some ⟨BG, 0, none⟩)) G J.pos wR (gAt_of HGK.out.rd HGI.out) (by have := HGI.out.items; omega)).mono ?_
          rintro e w5 ⟨v5, rfl, hl5, g5⟩
          obtain ⟨al, cl, rfl, hll, hlc, hAL⟩ := hl5.at1
          unfold maxLen at hlc
          have HAL := Lib.hid hAL; have HLB := Lib.hid (show ∀ x ∈ idsG G J.pos, 1 ≤ x ∧ x < G.next from fun x hx => idsG_bounds HGI.out hx)
          have HLL := Lib.hid (show (idsG G J.pos).length ≤ 1024 by have := idsG_len G J.pos; have := HGI.out.items; omega)
          have HLR := Lib.hid (show w.heap.size ≤ wR.heap.size from HMW.out.size)
          have HB5 := Lib.hid ((g5.heapEq hblr).trans HBR.out)
          have HJ5 := Lib.hid (HJR.out.grow g5); have HG5 := Lib.hid (HGK.out.grow g5); have HMW5 := Lib.hid (HMW.out.step (Mod.of_grow g5))
          have HNX := Lib.hid HGI.out.next1
          clear hl5 g5 hAL HJR HGK HMW e8 e9 e11
          generalize idsG G J.pos = l at *
          obtain ⟨-, e8, e9, -, e11⟩ := jobB_of HB5.out
          rw [HCN.out] at e8
          by_cases hlen : q < l.length
          · have hlx : l[q - 1]? = some l[q - 1] := List.getElem?_eq_getElem (by omega)
            obtain ⟨bl, ol, rfl, hSl, hbl5, hcx⟩ := HAL.out (q - 1) _ hlx
            have HX := Lib.hid (HLB.out _ (List.getElem_mem (show q - 1 < l.length by omega)))
            have HSE := Lib.hid (HSB.out (by omega) (by omega) l[q - 1] (by rw [show k + q - k - 1 = q - 1 by omega]; exact hlx))
            generalize l[q - 1] = x at *
            have hx1 : 1 ≤ x ∧ x + 1 ≤ 4611686018427387904 := by have := HX.out; have := HNX.out; omega
            have f9 := jobFroz HB5.out 9
            have hq1 : (0 : Int) < (q : Int) := by omega
            have hq2 : (q : Int) < (l.length : Int) := by omega
            clear hlx
            have HJ5 := HJ5
            obtain ⟨w6, hw6⟩ : ∃ w6, w5.setCell ⟨B, 9, none⟩ (.int .i64 (x + 1)) = w6 := ⟨_, rfl⟩
            have HS6 := Lib.hid (HJ5.out.setPos (x + 1))
            rw [hw6] at HS6
            go_wp2_with fail
            try rw [hw6]
            clear hw6
            have HJ6 := Lib.hid (show JobOk S w6 B (stepJ G J) by rw [HSE.out]; exact HS6.out.1)
            have HG6 := Lib.hid (HG5.out.keep HS6.out.2 HSEP.out)
            have HM6 := Lib.hid (HMW5.out.step HS6.out.2)
            refine (jobEnded S SG B BG (stepJ G J) G w6 HJ6.out HINV.out HG6.out).mono ?_
            rintro e w7 ⟨rfl, g7⟩
            have HJ7 := Lib.hid (HJ6.out.grow g7); have HM7 := Lib.hid (HM6.out.step (Mod.of_grow g7))
            clear g7
            go_wp2
            go_ret
            exact ⟨rfl, HJ7.out, HM7.out⟩
          · have HSE := Lib.hid (HSC.out (by omega) (by omega))
            have f9 := jobFroz HB5.out 9
            have hq1 : (0 : Int) < (q : Int) := by omega
            have hq2 : (l.length : Int) ≤ (q : Int) := by omega
            go_wp2_with fail
            refine (graphNext SG BG G w5 HG5.out).mono ?_
            rintro e w5' ⟨rfl, rfl⟩
            obtain ⟨w6, hw6⟩ : ∃ w6, w5.setCell ⟨B, 9, none⟩ (.int .i64 (G.next)) = w6 := ⟨_, rfl⟩
            have HS6 := Lib.hid (HJ5.out.setPos (G.next))
            rw [hw6] at HS6
            go_wp2_with fail
            try rw [hw6]
            clear hw6
            have HJ6 := Lib.hid (show JobOk S w6 B (stepJ G J) by rw [HSE.out]; exact HS6.out.1)
            have HG6 := Lib.hid (HG5.out.keep HS6.out.2 HSEP.out)
            have HM6 := Lib.hid (HMW5.out.step HS6.out.2)
            refine (jobEnded S SG B BG (stepJ G J) G w6 HJ6.out HINV.out HG6.out).mono ?_
            rintro e w7 ⟨rfl, g7⟩
            have HJ7 := Lib.hid (HJ6.out.grow g7); have HM7 := Lib.hid (HM6.out.step (Mod.of_grow g7))
            clear g7
            go_wp2
            go_ret
            exact ⟨rfl, HJ7.out, HM7.out⟩
        · obtain rfl : k = c := by omega
          have HSE := Lib.hid (HSA.out rfl)
          have HJ6 := Lib.hid (show JobOk S wR B (stepJ G J) by rw [HSE.out]; exact HJR.out)
          go_wp2_with fail
          refine (jobEnded S SG B BG (stepJ G J) G wR HJ6.out HINV.out HGK.out).mono ?_
          rintro e w7 ⟨rfl, g7⟩
          have HJ7 := Lib.hid (HJ6.out.grow g7); have HM7 := Lib.hid (HMW.out.step (Mod.of_grow g7))
          clear g7
          go_wp2
          go_ret
          exact ⟨rfl, HJ7.out, HM7.out⟩
end Go.Hg

namespace Go.Hg
open Go.RowKit Go.Proofs

theorem IdsPost.toR {l : List Int} {w w' : World} {e : Ending} (h : IdsPost l w e w') : ∃ v, e = .returned v ∧ IdsR (fun b => w.heap.size ≤ b) w' v l ∧ Grow w w' := by
  obtain ⟨v, h0, h1, h2⟩ := h.open
  exact ⟨v, h0, h1.toR, h2⟩

end Go.Hg

namespace Go.Hg

structure PSpot where
  kind : Int
  typ : ByteArray
  name : ByteArray
deriving DecidableEq

end Go.Hg

namespace Go.Hg

theorem bytesLess_trans : ∀ {a b c : List UInt8}, Op.bytesLess a b = true → Op.bytesLess b c = true → Op.bytesLess a c = true
  | [], b, c, h1, h2 => by
    cases c with
    | nil => cases b <;> simp [Op.bytesLess] at h1 h2
    | cons => rfl
  | x :: a, [], c, h1, _ => by simp [Op.bytesLess] at h1
  | x :: a, y :: b, [], _, h2 => by simp [Op.bytesLess] at h2
  | x :: a, y :: b, z :: c, h1, h2 => by
    have ih := @bytesLess_trans a b c
    simp only [Op.bytesLess, Bool.or_eq_true, Bool.and_eq_true, decide_eq_true_eq, beq_iff_eq] at h1 h2 ⊢
    rcases h1 with h1 | ⟨rfl, h1⟩
    · rcases h2 with h2 | ⟨rfl, h2⟩
      · left; rw [UInt8.lt_iff_toNat_lt] at *; omega
      · exact .inl h1
    · rcases h2 with h2 | ⟨rfl, h2⟩
      · exact .inl h2
      · exact .inr ⟨rfl, ih h1 h2⟩
theorem ltS_trans {a b c : ByteArray} (h1 : ltS a b = true) (h2 : ltS b c = true) : ltS a c = true := bytesLess_trans h1 h2

end Go.Hg
