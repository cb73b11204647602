/- hedgerowref15.Broken: Unique, Exists; hedgerowref15.Broken: Unique; hedgerowref15.Broken: all kinds; Keeps; (*hedgerowref23.Job).Step, Verdict; (*build.Job).Verdict; (*build.Job).Rule; The graph of wakes, of layer 18; hedgerowlaw17.wakes: true; hedgerowref17: Node, Edge: where an Id stands; hedgerowref17: At, props; hedgerowref17: what changes of its lists leave; cut. Conditions: those that each theorem names. -/
import Derived.WalkKit
import Derived.WalkSpells
import Derived.WalkLawsBesides
import Derived.Lib.Hide
import Derived.BigQuiet
import Derived.Deep.LoopGhost
import Derived.Test.YtfachjfohhhgeaaGreatDoorRows
import Derived.Lib.SliceRun
import Derived.WideMake
import Derived.Deep.RegionLaw
import Derived.Lib.Overlaps
import Derived.Deep.RegionHeld3
import Derived.Laws.ResultCell
import Derived.Shelf.SortM.Plain
import Derived.Shelf.SortM.SortNone
import Derived.Shelf.SlicesE.DeleteFunc
import Derived.Maps.OwnOps
import Derived.Maps.OwnSet
import Derived.Carry
import Derived.Lib.SlKeysI
import Derived.Shelf.SlIterI.Nil
import Derived.Conc.LoneCalls
import Derived.Conc.SmallLaws
import Derived.Deep.CutBlock
import Derived.Deep.DeepCutAuto
import Derived.Laws.EntriesVeiled
import Derived.Maps.RangeWalk
import Derived.Lib.SlMapFilter
import Derived.Test.YtfachjfohhhgeaaGreatDoorBpJ
namespace Go.Hg
open Go.RowKit Go.Proofs


abbrev set4 (w : World) (B : Nat) (a b c d : Value) : World := (((w.setCell ⟨B, 0, none⟩ a).setCell ⟨B, 1, none⟩ b).setCell ⟨B, 2, none⟩ c).setCell ⟨B, 3, none⟩ d
theorem set4_box {w : World} {B : Nat} {a b c d : Value} {T : TypeId} (h : w.heap[B]? = some (.cells #[a, b, c, d] T (0, 0))) (a' b' c' d' : Value) : (set4 w B a' b' c' d').heap[B]? = some (.cells #[a', b', c', d'] T (0, 0)) := by
  have h1 := heap_setCell_same w B 0 _ T a' h
  have h2 := heap_setCell_same _ B 1 _ T b' h1
  have h3 := heap_setCell_same _ B 2 _ T c' h2
  have h4 := heap_setCell_same _ B 3 _ T d' h3
  simpa using h4
theorem set4_grow {w0 w : World} (g : Grow w0 w) {B : Nat} (hB : w0.heap.size ≤ B) (a b c d : Value) : Grow w0 (set4 w B a b c d) :=
  (((g.setd (p := ⟨B, 0, none⟩) hB a).setd (p := ⟨B, 1, none⟩) hB b).setd (p := ⟨B, 2, none⟩) hB c).setd (p := ⟨B, 3, none⟩) hB d
abbrev foundBox (v : PVal) (b : Bool) : Obj := .cells #[.int .i64 v.kind, .int .i64 v.n, .string v.s, .bool b] 138 (0, 0)

set_option maxRecDepth 100000 in
set_option maxHeartbeats 8000000 in
theorem refBrokenExists (S : Nat → Prop) (nv ev : Value) (N : List PNode) (E : List PEdge) (r : PRule) (w : World) (hn : NodesR S w nv N) (he : EdgesR S w ev E) (hb : N.length ≤ 1099511627776) (hf : formR r = true) (hk : r.kind = 2) :
    Calls Tryz.prog 48 #[nv, ev, r.args] w (RBrkPost N E r w) := by
  have HF := Lib.hid hf; have HK := Lib.hid hk; have HBD := Lib.hid hb
  have HW := Lib.hid (show ∀ o1, Grow w (w.alloc o1) from fun o1 => (Grow.rfl' w).allocd o1)
  obtain ⟨_, _, rfl, _⟩ := SlR.open he
  obtain ⟨ae, ce, rfl, hel, hec, hE⟩ := SlR.open hn
  unfold maxLen at hec
  have HE := Lib.hid (show ∀ (j : Nat) (hj : j < N.length), ∃ ba oa pv, ae = some ⟨ba, oa, none⟩ ∧ ∀ w', Grow w w' → ba < w'.heap.size ∧ w'.cell? ⟨ba, oa + j * 3, none⟩ = some (.int .i64 N[j].id) ∧ w'.cell? ⟨ba, oa + j * 3 + 1, none⟩ = some (.string N[j].typ) ∧ w'.cell? ⟨ba, oa + j * 3 + 2, none⟩ = some pv ∧ PropsR S w' pv N[j].props from fun j hj => by
    obtain ⟨ba, oa', ra, rfl, hSa, hba, hRa, hca⟩ := hE j N[j] (List.getElem?_eq_getElem hj)
    obtain ⟨pva, h1, h2, h3, h4, h5⟩ := hRa.at hba (Grow.rfl' w) hca
    refine ⟨ba, oa', pva, rfl, fun w' g => ⟨Nat.lt_of_lt_of_le h1 g.size, ?_, ?_, ?_, h5.grow g⟩⟩
    · exact (g.cell (p := ⟨_, _, none⟩) hba).trans h2
    · exact (g.cell (p := ⟨_, _, none⟩) hba).trans h3
    · exact (g.cell (p := ⟨_, _, none⟩) hba).trans h4)
  clear hf hk hb hn he hE
  go_enter Tryz.func48, Tryz.ntmps48
  go_wp2_with fail
  refine (refForm r _).mono ?_
  rintro e w2 ⟨rfl, g2⟩
  have HG2 := Lib.hid ((HW.out _).step g2)
  have HRB := Lib.hid (ruleBoxNew w r w2 g2)
  obtain ⟨hrl, c1, c2, c3, c4, c5, c6, c7, c0⟩ := HRB.out.cells
  rw [HF.out]
  rw [HK.out] at c1
  have HI0 := Lib.hid (IdsW.nil w2.heap.size w2)
  clear g2
  go_wp2
  clear c1 c2 c3 c4 c5 c6 c7 c0
  go_loopg [7, 8] N.length (fun g lv i wr => ∃ j : Nat, j ≤ N.length ∧ g = N.length - j ∧ i = .int .i64 j ∧ IdsW w2.heap.size wr lv (((N.take j).filter (lacksR r)).map (·.id)) ∧ Grow w2 wr)
  case atStart => exact ⟨0, by omega, by omega, rfl, HI0.out, Grow.rfl' w2⟩
  case round =>
    obtain ⟨j, hj, rfl, rfl, hi, hz⟩ := hrel
    obtain ⟨oa, co, rfl, _, _⟩ := hi.isSlice
    have HI := Lib.hid hi; have HZ := Lib.hid hz
    clear hi hz
    by_cases hjl : j < N.length
    · obtain ⟨ba, oa', pv, rfl, hXj⟩ := HE.out j hjl
      have HX := Lib.hid hXj
      clear hXj
      have HT := Lib.hid (show N.take (j + 1) = N.take j ++ [N[j]] from List.take_succ_eq_append_getElem hjl)
      have HLE := Lib.hid (show (((N.take j).filter (lacksR r)).map (·.id)).length ≤ N.length by
        rw [List.length_map]
        exact Nat.le_trans (List.length_filter_le _ _) (by rw [List.length_take]; omega))
      generalize N[j] = x at *
      obtain ⟨bt, hbt⟩ : ∃ b, decide (x.typ = r.typ) = b := ⟨_, rfl⟩
      obtain ⟨bo, hbo⟩ : ∃ b, (getP x.props r.name).isSome = b := ⟨_, rfl⟩
      have HV := Lib.hid (show lacksR r x = (bt && !bo) by unfold lacksR; rw [hbt, ← hbo]; cases getP x.props r.name <;> rfl)
      have HBO := Lib.hid hbo
      clear hbo
      generalize hfl : ((N.take j).filter (lacksR r)).map (·.id) = fl at *
      have HFF := Lib.hid hfl
      clear hfl
      have HD := Lib.hid (filt_snoc (·.id) HT.out HFF.out HV.out)
      have HWR := Lib.hid (HG2.out.step HZ.out)
      obtain ⟨hal, a0, a1, a2, _⟩ := HX.out wr HWR.out
      obtain ⟨hrl', c1, c2, c3, c4, c5, c6, c7, c0⟩ := (HRB.out.grow HZ.out).cells
      clear c1 c4 c5 c6 c7 c0
      have HNO := Lib.hid (show ∀ (w4 : World), Grow wr w4 → Grow w2 w4 ∧ IdsW w2.heap.size w4 (.slice oa fl.length co) fl from fun w4 h => ⟨HZ.out.step h, HI.out.grow h⟩)
      cases bt
      · go_wp2_with fail
        refine wp_region_grow (by kernel_rfl) (by kernel_rfl) ?_
        repeat (go_big_quiet_step (fail))
        refine wpQuiet_nil ?_
        intro w4 hw4
        go_wp2_with fail
        go_roundg (N.length - (j + 1))
        case measure => omega
        case rel => exact ⟨j + 1, by omega, rfl, by go_num, by rw [HD.out, if_neg (by simp)]; exact (HNO.out _ hw4).2, (HNO.out _ hw4).1⟩
      · go_wp2_with fail
        refine wp_region_grow (by kernel_rfl) (by kernel_rfl) ?_
        repeat (go_big_quiet_step (fail))
        refine wpQuiet_nil ?_
        intro w4 hw4
        have HW4 := Lib.hid hw4
        clear a0 a1 a2 hal hw4 c2 c3 hrl'
        have HS := Lib.hid (show ∀ w', Grow w4 w' → w'.cell? ⟨ba, oa' + j * 3 + 2, none⟩ = some pv ∧ w'.cell? ⟨w.heap.size, 3, none⟩ = some (.string r.name) from fun w' g =>
          ⟨(HX.out w' ((HWR.out.step HW4.out).step g)).2.2.2.1, (HRB.out.grow ((HZ.out.step HW4.out).step g)).cells.2.2.2.1⟩)
        have HPR := Lib.hid (show ∀ w', Grow w4 w' → PropsR S w' pv x.props from fun w' g => (HX.out w' ((HWR.out.step HW4.out).step g)).2.2.2.2)
        have HDR := Lib.hid (show ∀ o1, Grow w4 (w4.alloc o1).drew ∧ (w4.alloc o1).drew.heap[w4.heap.size]? = some o1 from fun o1 => ⟨((Grow.rfl' w4).allocd o1).drewd, heap_alloc_new w4 o1⟩)
        obtain ⟨gv, hgv⟩ : ∃ gv, getV x.props r.name = gv := ⟨_, rfl⟩
        have HGV := Lib.hid hgv
        clear hgv
        go_wp2_with fail
        have HD0 := Lib.hid (show Grow w4 w4.drew from (Grow.rfl' w4).drewd)
        go_region_held3 (fun w' => w'.cell? ⟨ba, oa' + j * 3 + 2, none⟩ = some pv ∧ w'.cell? ⟨w.heap.size, 3, none⟩ = some (.string r.name)) (first | exact HS.out _ HD0.out | exact HS.out _ (HDR.out _).1 | exact HS.out _ HG5.out | exact HS.out _ (HG5.out.allocd _) | exact HS.out _ (set4_grow HG5.out (Nat.le_refl _) _ _ _ _)) (first | (go_at_call 81; refine (refGet S pv x.props r.name _ (HPR.out _ HD0.out)).mono ?_; rintro e w5 ⟨rfl, hg5⟩; rw [HGV.out, HBO.out]; have HG5 := Lib.hid (HD0.out.step hg5); clear hg5) | (go_at_call 81; refine (refGet S pv x.props r.name _ (HPR.out _ (HDR.out _).1)).mono ?_; rintro e w5 ⟨rfl, hg5⟩; rw [HGV.out, HBO.out]; have hnb := (hg5.heapEq (by simp)).trans (HDR.out _).2; have z0 : w5.cell? ⟨w4.heap.size, 0, none⟩ = some (.int .i64 0) := (blk_cell hnb _).trans rfl; have z1 : w5.cell? ⟨w4.heap.size, 1, none⟩ = some (.int .i64 0) := (blk_cell hnb _).trans rfl; have z2 : w5.cell? ⟨w4.heap.size, 2, none⟩ = some (.string ⟨#[]⟩) := (blk_cell hnb _).trans rfl; have z3 : w5.cell? ⟨w4.heap.size, 3, none⟩ = some (.bool false) := (blk_cell hnb _).trans rfl; have zf0 := blk_free hnb 0; have zf1 := blk_free hnb 1; have zf2 := blk_free hnb 2; have zf3 := blk_free hnb 3; have hnl := blk_lt hnb; have HNB := Lib.hid hnb; have HG5 := Lib.hid ((HDR.out _).1.step hg5); clear hg5 hnb))
        · obtain ⟨B, hB⟩ : ∃ B, w5.heap.size = B := ⟨_, rfl⟩
          obtain ⟨w6, hw6⟩ : ∃ w6, w5.alloc (.cells #[.int .i64 gv.kind, .int .i64 gv.n, .string gv.s, .bool bo] 138) = w6 := ⟨_, rfl⟩
          have HB6 : Hid (w6.heap[B]? = some (foundBox gv bo)) := Lib.hid (by rw [← hw6, ← hB]; exact heap_alloc_new w5 _)
          have HG6 := Lib.hid (show Grow w4 w6 from hw6 ▸ HG5.out.allocd _)
          rw [hw6, hB]
          clear hw6 hB
          have hbl := blk_lt HB6.out
          have d3 : w6.cell? ⟨B, 3, none⟩ = some (.bool bo) := (blk_cell HB6.out _).trans rfl
          have HW6 := Lib.hid (HW4.out.step HG6.out)
          obtain ⟨hrl6, c1, c2, c3, c4, c5, c6, c7, c0⟩ := (HRB.out.grow (HZ.out.step HW6.out)).cells
          rw [HK.out] at c1
          obtain ⟨hal, a0, a1, a2, _⟩ := HX.out w6 (HWR.out.step HW6.out)
          have HYES := Lib.hid (show ∀ o1, Grow w2 (w6.alloc o1) ∧ IdsW w2.heap.size (w6.alloc o1) (.slice oa fl.length co) fl from fun o1 => ⟨(HNO.out _ HW6.out).1.allocd o1, (HNO.out _ HW6.out).2.grow ((Grow.rfl' w6).allocd o1)⟩)
          have hzs := (HNO.out _ HW6.out).1.size
          clear c2 c3 c4 c5 c6 c7 c0 a1 a2
          cases bo
          · go_wp2_with (at_builtin; go_must (refine wpList_append_I rfl (.tmp 101) (.tmp 107) 25 rfl Tryz.underlying25 w2.heap.size _ fl rfl (HYES.out _).2 x.id _ rfl (rd1 _ _ _ (by simp)) (by simp; omega) (by have := HLE.out; have := HBD.out; omega) ?_))
            intro v5 w7 k1 k2 k3
            have H5 := Lib.hid k1; have HG7 := Lib.hid ((HYES.out _).1.since k2 (Nat.le_refl _))
            clear k1 k2 k3
            go_wp2
            go_roundg (N.length - (j + 1))
            case measure => omega
            case rel => exact ⟨j + 1, by omega, rfl, by go_num, by rw [HD.out, if_pos (by simp)]; exact H5.out, HG7.out⟩
          · go_wp2_with fail
            go_roundg (N.length - (j + 1))
            case measure => omega
            case rel => exact ⟨j + 1, by omega, rfl, by go_num, by rw [HD.out, if_neg (by simp)]; exact (HNO.out _ HW6.out).2, (HNO.out _ HW6.out).1⟩
        · obtain ⟨B, hB⟩ : ∃ B, w4.heap.size = B := ⟨_, rfl⟩
          obtain ⟨w6, hw6⟩ : ∃ w6, set4 w5 w4.heap.size (.int .i64 gv.kind) (.int .i64 gv.n) (.string gv.s) (.bool bo) = w6 := ⟨_, rfl⟩
          have HB6 : Hid (w6.heap[B]? = some (foundBox gv bo)) := Lib.hid (by rw [← hw6, ← hB]; exact set4_box HNB.out _ _ _ _)
          have HG6 := Lib.hid (show Grow w4 w6 from hw6 ▸ set4_grow HG5.out (Nat.le_refl _) _ _ _ _)
          rw [show ((((w5.setCell ⟨w4.heap.size, 0, none⟩ (.int .i64 gv.kind)).setCell ⟨w4.heap.size, 1, none⟩ (.int .i64 gv.n)).setCell ⟨w4.heap.size, 2, none⟩ (.string gv.s)).setCell ⟨w4.heap.size, 3, none⟩ (.bool bo)) = w6 from hw6, hB]
          clear hw6 hB z0 z1 z2 z3 zf0 zf1 zf2 zf3 hnl
          have hbl := blk_lt HB6.out
          have d3 : w6.cell? ⟨B, 3, none⟩ = some (.bool bo) := (blk_cell HB6.out _).trans rfl
          have HW6 := Lib.hid (HW4.out.step HG6.out)
          obtain ⟨hrl6, c1, c2, c3, c4, c5, c6, c7, c0⟩ := (HRB.out.grow (HZ.out.step HW6.out)).cells
          rw [HK.out] at c1
          obtain ⟨hal, a0, a1, a2, _⟩ := HX.out w6 (HWR.out.step HW6.out)
          have HYES := Lib.hid (show ∀ o1, Grow w2 (w6.alloc o1) ∧ IdsW w2.heap.size (w6.alloc o1) (.slice oa fl.length co) fl from fun o1 => ⟨(HNO.out _ HW6.out).1.allocd o1, (HNO.out _ HW6.out).2.grow ((Grow.rfl' w6).allocd o1)⟩)
          have hzs := (HNO.out _ HW6.out).1.size
          clear c2 c3 c4 c5 c6 c7 c0 a1 a2
          cases bo
          · go_wp2_with (at_builtin; go_must (refine wpList_append_I rfl (.tmp 101) (.tmp 107) 25 rfl Tryz.underlying25 w2.heap.size _ fl rfl (HYES.out _).2 x.id _ rfl (rd1 _ _ _ (by simp)) (by simp; omega) (by have := HLE.out; have := HBD.out; omega) ?_))
            intro v5 w7 k1 k2 k3
            have H5 := Lib.hid k1; have HG7 := Lib.hid ((HYES.out _).1.since k2 (Nat.le_refl _))
            clear k1 k2 k3
            go_wp2
            go_roundg (N.length - (j + 1))
            case measure => omega
            case rel => exact ⟨j + 1, by omega, rfl, by go_num, by rw [HD.out, if_pos (by simp)]; exact H5.out, HG7.out⟩
          · go_wp2_with fail
            go_roundg (N.length - (j + 1))
            case measure => omega
            case rel => exact ⟨j + 1, by omega, rfl, by go_num, by rw [HD.out, if_neg (by simp)]; exact (HNO.out _ HW6.out).2, (HNO.out _ HW6.out).1⟩
    · have hkk : N.take j = N := List.take_of_length_le (by omega)
      rw [hkk] at HI
      simp only [hkk]
      have HR := Lib.hid (RBrkPost.of (N := N) (E := E) (r := r) ⟨fun h => absurd h (by rw [HF.out]; simp), fun _ => by unfold BrkR; rw [if_neg (by have := HK.out; omega), if_pos HK.out]⟩ (by have := HK.out; omega) HI.out HG2.out HZ.out)
      clear hkk
      go_wp2
      go_ret
      exact HR.out
end Go.Hg

namespace Go.Hg
open Go.RowKit Go.Proofs

def cntV (N : List PNode) (r : PRule) (v : PVal) (k : Nat) : Nat := ((N.take k).filterMap (valR r)).count v
def dupU (N : List PNode) (r : PRule) (v : PVal) (j k : Nat) : Bool := decide ((if j < k then 1 else 0) < cntV N r v k)
theorem cntV_step {N : List PNode} {r : PRule} {v : PVal} {k : Nat} {y : PNode} (hT : N.take (k + 1) = N.take k ++ [y]) : cntV N r v (k + 1) = cntV N r v k + if valR r y = some v then 1 else 0 := by
  unfold cntV
  rw [hT, List.filterMap_append, List.count_append]
  cases hv : valR r y with
  | none => simp [hv]
  | some u =>
    simp only [List.filterMap_cons_some hv, List.filterMap_nil, List.count_cons, List.count_nil, Nat.zero_add, Option.some.injEq, beq_iff_eq]
theorem cntV_own {N : List PNode} {r : PRule} {v : PVal} {j k : Nat} {x : PNode} (hx : N[j]? = some x) (hv : valR r x = some v) (hk : j < k) : 1 ≤ cntV N r v k := by
  unfold cntV
  refine List.count_pos_iff.2 (List.mem_filterMap.2 ⟨x, ?_, hv⟩)
  obtain ⟨hj, rfl⟩ := List.getElem?_eq_some_iff.1 hx
  exact List.mem_take_iff_getElem.2 ⟨j, by omega, rfl⟩
theorem dupU_step {N : List PNode} {r : PRule} {v : PVal} {j k : Nat} {x y : PNode} (hT : N.take (k + 1) = N.take k ++ [y]) (hx : N[j]? = some x) (hv : valR r x = some v) (hy : N[k]? = some y) :
    dupU N r v j (k + 1) = (dupU N r v j k || (!decide (k = j) && decide (valR r y = some v))) := by
  unfold dupU
  rw [cntV_step hT]
  by_cases hkj : k = j
  · subst hkj
    rw [hx] at hy
    cases hy
    simp [hv]
  · have h1 : j < k → 1 ≤ cntV N r v k := cntV_own hx hv
    by_cases hjk : j < k
    · rw [if_pos (by omega), if_pos hjk]
      have := h1 hjk
      by_cases h2 : valR r y = some v
      · simp only [h2, if_true, hkj, decide_false, decide_true, Bool.not_false, Bool.and_self, Bool.or_true, decide_eq_true_eq]; omega
      · simp [h2]
    · rw [if_neg (by omega), if_neg hjk]
      by_cases h2 : valR r y = some v
      · simp [h2, hkj]
      · simp [h2]
theorem dupU_end {N : List PNode} {r : PRule} {v : PVal} {j : Nat} {x : PNode} (hx : N[j]? = some x) (hv : valR r x = some v) : dupU N r v j N.length = doubR N r x := by
  unfold dupU cntV doubR
  rw [hv, List.take_length, if_pos (List.getElem?_eq_some_iff.1 hx).1]
  simp only
  exact decide_eq_decide.2 (by omega)

set_option maxRecDepth 100000 in
set_option maxHeartbeats 16000000 in
theorem refBrokenUniq (S : Nat → Prop) (nv ev : Value) (N : List PNode) (E : List PEdge) (r : PRule) (w : World) (hn : NodesR S w nv N) (he : EdgesR S w ev E) (hb : N.length ≤ 1099511627776) (hf : formR r = true) (hk : r.kind = 1) :
    Calls Tryz.prog 48 #[nv, ev, r.args] w (RBrkPost N E r w) := by
  have HF := Lib.hid hf; have HK := Lib.hid hk; have HBD := Lib.hid hb
  have HW := Lib.hid (show ∀ o1, Grow w (w.alloc o1) from fun o1 => (Grow.rfl' w).allocd o1)
  obtain ⟨_, _, rfl, _⟩ := SlR.open he
  obtain ⟨ae, ce, rfl, hel, hec, hE⟩ := SlR.open hn
  unfold maxLen at hec
  have HE := Lib.hid (show ∀ (j : Nat) (hj : j < N.length), ∃ ba oa pv, ae = some ⟨ba, oa, none⟩ ∧ ∀ w', Grow w w' → ba < w'.heap.size ∧ w'.cell? ⟨ba, oa + j * 3, none⟩ = some (.int .i64 N[j].id) ∧ w'.cell? ⟨ba, oa + j * 3 + 1, none⟩ = some (.string N[j].typ) ∧ w'.cell? ⟨ba, oa + j * 3 + 2, none⟩ = some pv ∧ PropsR S w' pv N[j].props from fun j hj => by
    obtain ⟨ba, oa', ra, rfl, hSa, hba, hRa, hca⟩ := hE j N[j] (List.getElem?_eq_getElem hj)
    obtain ⟨pva, h1, h2, h3, h4, h5⟩ := hRa.at hba (Grow.rfl' w) hca
    refine ⟨ba, oa', pva, rfl, fun w' g => ⟨Nat.lt_of_lt_of_le h1 g.size, ?_, ?_, ?_, h5.grow g⟩⟩
    · exact (g.cell (p := ⟨_, _, none⟩) hba).trans h2
    · exact (g.cell (p := ⟨_, _, none⟩) hba).trans h3
    · exact (g.cell (p := ⟨_, _, none⟩) hba).trans h4)
  clear hf hk hb hn he hE
  go_enter Tryz.func48, Tryz.ntmps48
  go_wp2_with fail
  refine (refForm r _).mono ?_
  rintro e w2 ⟨rfl, g2⟩
  have HG2 := Lib.hid ((HW.out _).step g2)
  have HRB := Lib.hid (ruleBoxNew w r w2 g2)
  obtain ⟨hrl, c1, c2, c3, c4, c5, c6, c7, c0⟩ := HRB.out.cells
  rw [HF.out]
  rw [HK.out] at c1
  have HI0 := Lib.hid (IdsW.nil w2.heap.size w2)
  clear g2
  go_wp2
  clear c1 c2 c3 c4 c5 c6 c7 c0
  go_loopg [7, 8] N.length (fun g lv i wr => ∃ j : Nat, j ≤ N.length ∧ g = N.length - j ∧ i = .int .i64 j ∧ IdsW w2.heap.size wr lv (((N.take j).filter (doubR N r)).map (·.id)) ∧ Grow w2 wr)
  case atStart => exact ⟨0, by omega, by omega, rfl, HI0.out, Grow.rfl' w2⟩
  case round =>
    obtain ⟨j, hj, rfl, rfl, hi, hz⟩ := hrel
    obtain ⟨oa, co, rfl, _, _⟩ := hi.isSlice
    have HI := Lib.hid hi; have HZ := Lib.hid hz
    clear hi hz
    by_cases hjl : j < N.length
    · obtain ⟨ba, oa', pv, rfl, hXj⟩ := HE.out j hjl
      have HX := Lib.hid hXj
      clear hXj
      have HE1 := Lib.hid (show ∀ (k : Nat) (hk : k < N.length), ∃ pv, ∀ w', Grow w w' → ba < w'.heap.size ∧ w'.cell? ⟨ba, oa' + k * 3, none⟩ = some (.int .i64 N[k].id) ∧ w'.cell? ⟨ba, oa' + k * 3 + 1, none⟩ = some (.string N[k].typ) ∧ w'.cell? ⟨ba, oa' + k * 3 + 2, none⟩ = some pv ∧ PropsR S w' pv N[k].props from fun k hk => by
        obtain ⟨b1, o1, pv1, h1, h2⟩ := HE.out k hk
        cases h1
        exact ⟨pv1, h2⟩)
      have HT := Lib.hid (show N.take (j + 1) = N.take j ++ [N[j]] from List.take_succ_eq_append_getElem hjl)
      have HXE := Lib.hid (show N[j]? = some N[j] from List.getElem?_eq_getElem hjl)
      have HLE := Lib.hid (show (((N.take j).filter (doubR N r)).map (·.id)).length ≤ N.length by
        rw [List.length_map]
        exact Nat.le_trans (List.length_filter_le _ _) (by rw [List.length_take]; omega))
      generalize N[j] = x at *
      obtain ⟨gv, hgv⟩ : ∃ gv, getV x.props r.name = gv := ⟨_, rfl⟩
      obtain ⟨bt, hbt⟩ : ∃ b, decide (x.typ = r.typ) = b := ⟨_, rfl⟩
      obtain ⟨bo, hbo⟩ : ∃ b, (getP x.props r.name).isSome = b := ⟨_, rfl⟩
      have HVR := Lib.hid (show valR r x = if (bo && bt) = true then some gv else none by rw [valR_eq, hgv, hbo, hbt])
      have HBO := Lib.hid hbo; have HGV := Lib.hid hgv
      clear hbo hgv
      obtain ⟨bd, hbd⟩ : ∃ b, doubR N r x = b := ⟨_, rfl⟩
      generalize hfl : ((N.take j).filter (doubR N r)).map (·.id) = fl at *
      have HFF := Lib.hid hfl
      have HBD2 := Lib.hid hbd
      clear hfl hbd
      have HD := Lib.hid (filt_snoc (·.id) HT.out HFF.out HBD2.out)
      have HWR := Lib.hid (HG2.out.step HZ.out)
      obtain ⟨hal, a0, a1, a2, _⟩ := HX.out wr HWR.out
      obtain ⟨hrl', c1, c2, c3, c4, c5, c6, c7, c0⟩ := (HRB.out.grow HZ.out).cells
      clear c1 c4 c5 c6 c7 c0
      have HNO := Lib.hid (show ∀ (w4 : World), Grow wr w4 → Grow w2 w4 ∧ IdsW w2.heap.size w4 (.slice oa fl.length co) fl from fun w4 h => ⟨HZ.out.step h, HI.out.grow h⟩)
      have HYES := Lib.hid (show ∀ (w4 : World), Grow wr w4 → ∀ o1, Grow w2 (w4.alloc o1) ∧ IdsW w2.heap.size (w4.alloc o1) (.slice oa fl.length co) fl from fun w4 h o1 => ⟨(HZ.out.step h).allocd o1, (HI.out.grow h).grow ((Grow.rfl' w4).allocd o1)⟩)
      cases bt
      · obtain rfl : bd = false := by rw [← HBD2.out]; unfold doubR; rw [HVR.out]; simp
        go_wp2_with fail
        refine wp_region_grow (by kernel_rfl) (by kernel_rfl) ?_
        repeat (go_big_quiet_step (fail))
        refine wpQuiet_nil ?_
        intro w4 hw4
        go_wp2_with fail
        go_roundg (N.length - (j + 1))
        case measure => omega
        case rel => exact ⟨j + 1, by omega, rfl, by go_num, by rw [HD.out, if_neg (by simp)]; exact (HNO.out _ hw4).2, (HNO.out _ hw4).1⟩
      · go_wp2_with fail
        refine wp_region_grow (by kernel_rfl) (by kernel_rfl) ?_
        repeat (go_big_quiet_step (fail))
        refine wpQuiet_nil ?_
        intro w4 hw4
        have HW4 := Lib.hid hw4
        clear a0 a1 a2 hal hw4 c2 c3 hrl'
        have HS := Lib.hid (show ∀ w', Grow w4 w' → w'.cell? ⟨ba, oa' + j * 3 + 2, none⟩ = some pv ∧ w'.cell? ⟨w.heap.size, 3, none⟩ = some (.string r.name) from fun w' g =>
          ⟨(HX.out w' ((HWR.out.step HW4.out).step g)).2.2.2.1, (HRB.out.grow ((HZ.out.step HW4.out).step g)).cells.2.2.2.1⟩)
        have HPR := Lib.hid (show ∀ w', Grow w4 w' → PropsR S w' pv x.props from fun w' g => (HX.out w' ((HWR.out.step HW4.out).step g)).2.2.2.2)
        have HDR := Lib.hid (show ∀ o1, Grow w4 (w4.alloc o1).drew ∧ (w4.alloc o1).drew.heap[w4.heap.size]? = some o1 from fun o1 => ⟨((Grow.rfl' w4).allocd o1).drewd, heap_alloc_new w4 o1⟩)
        have HD0 := Lib.hid (show Grow w4 w4.drew from (Grow.rfl' w4).drewd)
        go_upto_region 11 with fail
        go_cut [9] (fun s wx => ∃ B : Nat, s = .pointer (some ⟨B, 0, none⟩) ∧ wx.heap[B]? = some (foundBox gv bo) ∧ Grow w4 wx)
        case first =>
          go_region_held3 (fun w' => w'.cell? ⟨ba, oa' + j * 3 + 2, none⟩ = some pv ∧ w'.cell? ⟨w.heap.size, 3, none⟩ = some (.string r.name)) (first | exact HS.out _ HD0.out | exact HS.out _ (HDR.out _).1 | exact HS.out _ HG5.out | exact HS.out _ (HG5.out.allocd _) | exact HS.out _ (set4_grow HG5.out (Nat.le_refl _) _ _ _ _)) (first | (go_at_call 81; refine (refGet S pv x.props r.name _ (HPR.out _ HD0.out)).mono ?_; rintro e w5 ⟨rfl, hg5⟩; rw [HGV.out, HBO.out]; have HG5 := Lib.hid (HD0.out.step hg5); clear hg5) | (go_at_call 81; refine (refGet S pv x.props r.name _ (HPR.out _ (HDR.out _).1)).mono ?_; rintro e w5 ⟨rfl, hg5⟩; rw [HGV.out, HBO.out]; have hnb := (hg5.heapEq (by simp)).trans (HDR.out _).2; have z0 : w5.cell? ⟨w4.heap.size, 0, none⟩ = some (.int .i64 0) := (blk_cell hnb _).trans rfl; have z1 : w5.cell? ⟨w4.heap.size, 1, none⟩ = some (.int .i64 0) := (blk_cell hnb _).trans rfl; have z2 : w5.cell? ⟨w4.heap.size, 2, none⟩ = some (.string ⟨#[]⟩) := (blk_cell hnb _).trans rfl; have z3 : w5.cell? ⟨w4.heap.size, 3, none⟩ = some (.bool false) := (blk_cell hnb _).trans rfl; have zf0 := blk_free hnb 0; have zf1 := blk_free hnb 1; have zf2 := blk_free hnb 2; have zf3 := blk_free hnb 3; have hnl := blk_lt hnb; have HNB := Lib.hid hnb; have HG5 := Lib.hid ((HDR.out _).1.step hg5); clear hg5 hnb))
          · go_wp2_with fail
            go_meet
            exact ⟨w5.heap.size, rfl, heap_alloc_new w5 _, HG5.out.allocd _⟩
          · go_wp2_with fail
            go_meet
            exact ⟨w4.heap.size, rfl, set4_box HNB.out _ _ _ _, set4_grow HG5.out (Nat.le_refl _) _ _ _ _⟩
        case rest =>
          obtain ⟨B, rfl, hB6, hG6⟩ := hcut
          obtain ⟨w6, rfl⟩ : ∃ w6, w6 = wc := ⟨_, rfl⟩
          have HB6 := Lib.hid hB6; have HG6 := Lib.hid hG6
          have hbl := blk_lt hB6
          have d3 : w6.cell? ⟨B, 3, none⟩ = some (.bool bo) := (blk_cell hB6 _).trans rfl
          have HW6 := Lib.hid (HW4.out.step hG6)
          clear hB6 hG6 HS HPR HDR HD0
          obtain ⟨hrl6, c1, c2, c3, c4, c5, c6, c7, c0⟩ := (HRB.out.grow (HZ.out.step HW6.out)).cells
          rw [HK.out] at c1
          clear c2 c3 c4 c5 c6 c7 c0
          cases bo
          · obtain rfl : bd = false := by rw [← HBD2.out]; unfold doubR; rw [HVR.out]; simp
            go_wp2
            go_loopg [10, 11] 0 (fun g bv kv wr => g = 0 ∧ bv = .bool false ∧ kv = .int .i64 0 ∧ wr = w6)
            case atStart => exact ⟨rfl, rfl, rfl, rfl⟩
            case round =>
              obtain ⟨rfl, rfl, rfl, rfl⟩ := hrel
              have hz0 : (0 : Nat) < N.length := by omega
              go_wp2_with fail
              go_roundg (N.length - (j + 1))
              case measure => omega
              case rel => exact ⟨j + 1, by omega, rfl, by go_num, by rw [HD.out, if_neg (by simp)]; exact (HNO.out _ HW6.out).2, (HNO.out _ HW6.out).1⟩
          · have HVS := Lib.hid (show valR r x = some gv by rw [HVR.out]; rfl)
            have HD0' := Lib.hid (show false = dupU N r gv j 0 by simp [dupU, cntV])
            obtain ⟨wo, rfl⟩ : ∃ wo, wo = wr := ⟨_, rfl⟩
            go_wp2
            go_loopg [10, 11] N.length (fun g bv kv wr => ∃ (k : Nat) (bb : Bool), k ≤ N.length ∧ g = N.length - k ∧ kv = .int .i64 k ∧ bv = .bool bb ∧ bb = dupU N r gv j k ∧ Grow w6 wr)
            case atStart => exact ⟨0, false, by omega, by omega, rfl, rfl, HD0'.out, Grow.rfl' w6⟩
            case round =>
              obtain ⟨k, bb, hk, rfl, rfl, rfl, hbb, hgo⟩ := hrel
              have HBB := Lib.hid hbb; have HGO := Lib.hid hgo
              have hB6 := (hgo.heapEq (blk_lt HB6.out)).trans HB6.out
              have hbl := blk_lt hB6
              have d3 : wr.cell? ⟨B, 3, none⟩ = some (.bool true) := (blk_cell hB6 _).trans rfl
              have HW8 := Lib.hid (HW6.out.step hgo)
              have HB8 := Lib.hid hB6
              clear hbb hgo hB6
              by_cases hkl : k < N.length
              · obtain ⟨qv, hXk⟩ := HE1.out k hkl
                have HXK := Lib.hid hXk
                clear hXk
                have HTK := Lib.hid (show N.take (k + 1) = N.take k ++ [N[k]] from List.take_succ_eq_append_getElem hkl)
                have HYE := Lib.hid (show N[k]? = some N[k] from List.getElem?_eq_getElem hkl)
                generalize N[k] = y at *
                have HST := Lib.hid (dupU_step HTK.out HXE.out HVS.out HYE.out)
                obtain ⟨gy, hgy⟩ : ∃ gv, getV y.props r.name = gv := ⟨_, rfl⟩
                obtain ⟨bt2, hbt2⟩ : ∃ b, decide (y.typ = r.typ) = b := ⟨_, rfl⟩
                obtain ⟨bo2, hbo2⟩ : ∃ b, (getP y.props r.name).isSome = b := ⟨_, rfl⟩
                obtain ⟨bz, hbz⟩ : ∃ b, (cmpV gv gy == 0) = b := ⟨_, rfl⟩
                obtain ⟨by2, hby⟩ : ∃ b, decide (valR r y = some gv) = b := ⟨_, rfl⟩
                have HST3 := Lib.hid (show by2 = (bt2 && (bo2 && bz)) by
                  rw [← hby, valR_eq, hgy, hbo2, hbt2, ← hbz, int_beq, cmpV_zero]
                  by_cases h : gv = gy
                  · subst h; cases bo2 <;> cases bt2 <;> simp
                  · cases bo2 <;> cases bt2 <;> simp [h, eq_comm])
                rw [hby] at HST
                rw [← HBB.out] at HST
                have HBO2 := Lib.hid hbo2; have HGY := Lib.hid hgy
                clear hbo2 hgy hby
                have HW9 := Lib.hid (HWR.out.step HW8.out)
                have HS := Lib.hid (show ∀ w', Grow wr w' → w'.cell? ⟨ba, oa' + k * 3 + 2, none⟩ = some qv ∧ w'.cell? ⟨w.heap.size, 3, none⟩ = some (.string r.name) from fun w' g =>
                  ⟨(HXK.out w' (HW9.out.step g)).2.2.2.1, (HRB.out.grow ((HZ.out.step HW8.out).step g)).cells.2.2.2.1⟩)
                have HPR := Lib.hid (show ∀ w', Grow wr w' → PropsR S w' qv y.props from fun w' g => (HXK.out w' (HW9.out.step g)).2.2.2.2)
                clear hrl6 c1
                have HDR := Lib.hid (show ∀ o1, Grow wr (wr.alloc o1).drew ∧ (wr.alloc o1).drew.heap[wr.heap.size]? = some o1 from fun o1 => ⟨((Grow.rfl' wr).allocd o1).drewd, heap_alloc_new wr o1⟩)
                have HD0 := Lib.hid (show Grow wr wr.drew from (Grow.rfl' wr).drewd)
                go_upto_region 18 with fail
                go_cut [12] (fun s wx => ∃ B : Nat, s = .pointer (some ⟨B, 0, none⟩) ∧ wx.heap[B]? = some (foundBox gy bo2) ∧ Grow wr wx)
                case first =>
                  go_region_held3 (fun w' => w'.cell? ⟨ba, oa' + k * 3 + 2, none⟩ = some qv ∧ w'.cell? ⟨w.heap.size, 3, none⟩ = some (.string r.name)) (first | exact HS.out _ HD0.out | exact HS.out _ (HDR.out _).1 | exact HS.out _ HG5.out | exact HS.out _ (HG5.out.allocd _) | exact HS.out _ (set4_grow HG5.out (Nat.le_refl _) _ _ _ _)) (first | (go_at_call 81; refine (refGet S qv y.props r.name _ (HPR.out _ HD0.out)).mono ?_; rintro e w5 ⟨rfl, hg5⟩; rw [HGY.out, HBO2.out]; have HG5 := Lib.hid (HD0.out.step hg5); clear hg5) | (go_at_call 81; refine (refGet S qv y.props r.name _ (HPR.out _ (HDR.out _).1)).mono ?_; rintro e w5 ⟨rfl, hg5⟩; rw [HGY.out, HBO2.out]; have hnb := (hg5.heapEq (by simp)).trans (HDR.out _).2; have z0 : w5.cell? ⟨wr.heap.size, 0, none⟩ = some (.int .i64 0) := (blk_cell hnb _).trans rfl; have z1 : w5.cell? ⟨wr.heap.size, 1, none⟩ = some (.int .i64 0) := (blk_cell hnb _).trans rfl; have z2 : w5.cell? ⟨wr.heap.size, 2, none⟩ = some (.string ⟨#[]⟩) := (blk_cell hnb _).trans rfl; have z3 : w5.cell? ⟨wr.heap.size, 3, none⟩ = some (.bool false) := (blk_cell hnb _).trans rfl; have zf0 := blk_free hnb 0; have zf1 := blk_free hnb 1; have zf2 := blk_free hnb 2; have zf3 := blk_free hnb 3; have hnl := blk_lt hnb; have HNB := Lib.hid hnb; have HG5 := Lib.hid ((HDR.out _).1.step hg5); clear hg5 hnb))
                  · go_wp2_with fail
                    go_meet
                    exact ⟨w5.heap.size, rfl, heap_alloc_new w5 _, HG5.out.allocd _⟩
                  · go_wp2_with fail
                    go_meet
                    exact ⟨wr.heap.size, rfl, set4_box HNB.out _ _ _ _, set4_grow HG5.out (Nat.le_refl _) _ _ _ _⟩
                case rest =>
                  obtain ⟨B2, rfl, hB7, hG7⟩ := hcut
                  obtain ⟨w8, rfl⟩ : ∃ w8, w8 = wc := ⟨_, rfl⟩
                  have HG6i := Lib.hid (HGO.out.step hG7)
                  have hbl2 := blk_lt hB7
                  have e3 : w8.cell? ⟨B2, 3, none⟩ = some (.bool bo2) := (blk_cell hB7 _).trans rfl
                  have e0 : w8.cell? ⟨B2, 0, none⟩ = some (.int .i64 gy.kind) := (blk_cell hB7 _).trans rfl
                  have e1 : w8.cell? ⟨B2, 1, none⟩ = some (.int .i64 gy.n) := (blk_cell hB7 _).trans rfl
                  have e2 : w8.cell? ⟨B2, 2, none⟩ = some (.string gy.s) := (blk_cell hB7 _).trans rfl
                  have hB9 := (hG7.heapEq (blk_lt HB8.out)).trans HB8.out
                  have hbl := blk_lt hB9
                  have d0 : w8.cell? ⟨B, 0, none⟩ = some (.int .i64 gv.kind) := (blk_cell hB9 _).trans rfl
                  have d1 : w8.cell? ⟨B, 1, none⟩ = some (.int .i64 gv.n) := (blk_cell hB9 _).trans rfl
                  have d2 : w8.cell? ⟨B, 2, none⟩ = some (.string gv.s) := (blk_cell hB9 _).trans rfl
                  obtain ⟨hal, _, a1, _, _⟩ := HXK.out w8 (HW9.out.step hG7)
                  obtain ⟨hrl8, c1, c2, c3, c4, c5, c6, c7, c0⟩ := (HRB.out.grow ((HZ.out.step HW8.out).step hG7)).cells
                  clear hB7 hG7 HS HPR HDR HD0 c1 c3 c4 c5 c6 c7 c0 hB9
                  cases bb
                  · by_cases hkj : k = j
                    · have HST2 := Lib.hid (show (false || (!decide (k = j) && by2)) = false by simp [hkj])
                      clear HST3
                      subst hkj
                      go_wp2_with fail
                      refine wp_region_grow (by kernel_rfl) (by kernel_rfl) ?_
                      repeat (go_big_quiet_step (fail))
                      refine wpQuiet_nil ?_
                      intro w9 hw9
                      go_wp2_with fail
                      go_roundg (N.length - (k + 1))
                      case measure => omega
                      case rel => exact ⟨k + 1, false, by omega, rfl, by go_num, rfl, by rw [HST.out]; exact HST2.out.symm, (HG6i.out).step hw9⟩
                    · have hkb : (k == j) = false := by simpa using hkj
                      have hkb2 : ((k : Int) == (j : Int)) = false := by rw [int_beq]; exact decide_eq_false (by omega)
                      have hkb3 : ((k : Int) != (j : Int)) = true := by unfold bne; rw [hkb2]; rfl
                      have hkb4 : (k != j) = true := by unfold bne; rw [hkb]; rfl
                      have HKJ := Lib.hid hkj
                      cases bt2
                      · have HST2 := Lib.hid (show (false || (!decide (k = j) && by2)) = false by rw [HST3.out]; simp)
                        go_wp2_with fail
                        refine wp_region_grow (by kernel_rfl) (by kernel_rfl) ?_
                        repeat (go_big_quiet_step (fail))
                        refine wpQuiet_nil ?_
                        intro w9 hw9
                        go_wp2_with fail
                        go_roundg (N.length - (k + 1))
                        case measure => omega
                        case rel => exact ⟨k + 1, false, by omega, rfl, by go_num, rfl, by rw [HST.out]; exact HST2.out.symm, (HG6i.out).step hw9⟩
                      · cases bo2
                        · have HST2 := Lib.hid (show (false || (!decide (k = j) && by2)) = false by rw [HST3.out]; simp)
                          go_wp2_with fail
                          refine wp_region_grow (by kernel_rfl) (by kernel_rfl) ?_
                          repeat (go_big_quiet_step (fail))
                          refine wpQuiet_nil ?_
                          intro w9 hw9
                          go_wp2_with fail
                          go_roundg (N.length - (k + 1))
                          case measure => omega
                          case rel => exact ⟨k + 1, false, by omega, rfl, by go_num, rfl, by rw [HST.out]; exact HST2.out.symm, (HG6i.out).step hw9⟩
                        · have HST2 := Lib.hid (show (false || (!decide (k = j) && by2)) = bz by rw [HST3.out, decide_eq_false HKJ.out]; simp)
                          go_wp2_with fail
                          refine wp_region_grow (by kernel_rfl) (by kernel_rfl) ?_
                          repeat (go_big_quiet_step (exact calls_gr (refCompare gv gy _)))
                          refine wpQuiet_nil ?_
                          intro w9 hw9
                          go_wp2_with fail
                          go_roundg (N.length - (k + 1))
                          case measure => omega
                          case rel => exact ⟨k + 1, bz, by omega, rfl, by go_num, rfl, by rw [HST.out]; exact HST2.out.symm, (HG6i.out).step hw9⟩
                  · have HST2 := Lib.hid (show (true || (!decide (k = j) && by2)) = true by simp)
                    clear HST3
                    go_wp2_with fail
                    refine wp_region_grow (by kernel_rfl) (by kernel_rfl) ?_
                    repeat (go_big_quiet_step (fail))
                    refine wpQuiet_nil ?_
                    intro w9 hw9
                    go_wp2_with fail
                    go_roundg (N.length - (k + 1))
                    case measure => omega
                    case rel => exact ⟨k + 1, true, by omega, rfl, by go_num, rfl, by rw [HST.out]; exact HST2.out.symm, (HG6i.out).step hw9⟩
              · have hkk : k = N.length := by omega
                have HEND := Lib.hid (dupU_end HXE.out HVS.out)
                obtain rfl : bb = bd := by rw [HBB.out, hkk, HEND.out, HBD2.out]
                obtain ⟨hal, a0, _, _, _⟩ := HX.out wr (HWR.out.step HW8.out)
                have hzs := (HNO.out _ HW8.out).1.size
                clear hkk
                cases bb
                · go_wp2_with fail
                  go_roundg (N.length - (j + 1))
                  case measure => omega
                  case rel => exact ⟨j + 1, by omega, rfl, by go_num, by rw [HD.out, if_neg (by simp)]; exact (HNO.out _ HW8.out).2, (HNO.out _ HW8.out).1⟩
                · go_wp2_with (at_builtin; go_must (refine wpList_append_I rfl (.tmp 101) (.tmp 107) 25 rfl Tryz.underlying25 w2.heap.size _ fl rfl (HYES.out _ HW8.out _).2 x.id _ rfl (rd1 _ _ _ (by simp)) (by simp; omega) (by have := HLE.out; have := HBD.out; omega) ?_))
                  intro v5 w7 k1 k2 k3
                  have H5 := Lib.hid k1; have HG7 := Lib.hid ((HYES.out _ HW8.out _).1.since k2 (Nat.le_refl _))
                  clear k1 k2 k3
                  go_wp2
                  go_roundg (N.length - (j + 1))
                  case measure => omega
                  case rel => exact ⟨j + 1, by omega, rfl, by go_num, by rw [HD.out, if_pos (by simp)]; exact H5.out, HG7.out⟩
    · have hkk : N.take j = N := List.take_of_length_le (by omega)
      rw [hkk] at HI
      simp only [hkk]
      have HR := Lib.hid (RBrkPost.of (N := N) (E := E) (r := r) ⟨fun h => absurd h (by rw [HF.out]; simp), fun _ => by unfold BrkR; rw [if_pos HK.out]⟩ (by have := HK.out; omega) HI.out HG2.out HZ.out)
      clear hkk
      go_wp2
      go_ret
      exact HR.out
end Go.Hg

namespace Go.Hg
open Go.RowKit Go.Proofs

theorem refBroken (S : Nat → Prop) (nv ev : Value) (N : List PNode) (E : List PEdge) (r : PRule) (w : World) (hn : NodesR S w nv N) (he : EdgesR S w ev E) (hb : N.length ≤ 1099511627776) (hb2 : E.length ≤ 1099511627776) :
    Calls Tryz.prog 48 #[nv, ev, r.args] w (RBrkPost N E r w) := by
  cases hf : formR r with
  | false => exact refBrokenNo nv ev N E r w hf
  | true =>
    rcases formR_kind hf with hk | hk | hk | hk
    · exact refBrokenUniq S nv ev N E r w hn he hb hf hk
    · exact refBrokenExists S nv ev N E r w hn he hb hf hk
    · exact refBrokenEnds S nv ev N E r w hn he hb2 hf hk
    · exact refBrokenMost S nv ev N E r w hn he hb2 hf hk
theorem RBrk.nil_iff {N : List PNode} {E : List PEdge} {r : PRule} {L : List Int} (h : RBrk N E r L) (hf : formR r = true) : keepR N E r = decide (L = []) := by
  by_cases hk : r.kind = 4
  · have h1 := h.2 hf
    rw [if_pos hk] at h1
    have h2 : BrokenR N E r (L.mergeSort fun x y => decide (x ≤ y)) := ⟨fun h => absurd h (by rw [hf]; simp), fun _ => by
      unfold BrkR
      rw [if_neg (by omega), if_neg (by omega), if_neg (by omega)]
      exact rset_sorted h1.1 h1.2⟩
    rw [h2.nil_iff hf]
    have hp := List.mergeSort_perm L (fun x y => decide (x ≤ y))
    refine decide_eq_decide.2 ⟨fun e => ?_, fun e => ?_⟩
    · rw [e] at hp; exact hp.symm.eq_nil
    · rw [e] at hp ⊢; exact hp.eq_nil
  · have h2 : BrokenR N E r L := ⟨h.1, fun hf => by have := h.2 hf; rwa [if_neg hk] at this⟩
    exact h2.nil_iff hf

set_option maxRecDepth 100000 in
set_option maxHeartbeats 1000000 in
theorem ref15Keeps (S : Nat → Prop) (nv ev : Value) (N : List PNode) (E : List PEdge) (r : PRule) (w : World) (hn : NodesR S w nv N) (he : EdgesR S w ev E) (hb : N.length ≤ 1099511627776) (hb2 : E.length ≤ 1099511627776) :
    Calls Tryz.prog 17 #[nv, ev, r.args] w fun e w' => e = .returned (.bool (keepR N E r)) ∧ Grow w w' := by
  have HN := Lib.hid hn; have HE := Lib.hid he; have HB := Lib.hid hb; have HB2 := Lib.hid hb2
  obtain ⟨_, _, rfl, _⟩ := SlR.open hn
  obtain ⟨_, _, rfl, _⟩ := SlR.open he
  have HW := Lib.hid (show ∀ o1, Grow w (w.alloc o1) from fun o1 => (Grow.rfl' w).allocd o1)
  have HRN := Lib.hid (fun w' => ruleBoxNew w r w')
  have HFR := Lib.hid (show ∀ L, RBrk N E r L → formR r = true → keepR N E r = decide (L = []) from fun L h hf => h.nil_iff hf)
  have HFN := Lib.hid (show formR r = false → keepR N E r = false from fun h => by unfold keepR; rw [h]; rfl)
  clear hn he hb hb2
  obtain ⟨bf, hbf⟩ : ∃ b, formR r = b := ⟨_, rfl⟩
  have HBF := Lib.hid hbf
  clear hbf
  cases bf
  · go_enter Tryz.func17, Tryz.ntmps17
    go_wp2_with fail
    refine (refForm r _).mono ?_
    rintro e w2 ⟨rfl, g2⟩
    rw [HBF.out]
    have HG2 := Lib.hid ((HW.out _).step g2)
    clear g2
    go_wp2
    go_ret
    exact ⟨by rw [HFN.out HBF.out]; rfl, HG2.out⟩
  · go_enter Tryz.func17, Tryz.ntmps17
    go_wp2_with fail
    refine (refForm r _).mono ?_
    rintro e w2 ⟨rfl, g2⟩
    rw [HBF.out]
    have HG2 := Lib.hid ((HW.out _).step g2)
    obtain ⟨hrl, c1, c2, c3, c4, c5, c6, c7, c0⟩ := (HRN.out w2 g2).cells
    clear g2
    go_wp2_with fail
    refine (refBroken S _ _ N E r w2 (HN.out.grow HG2.out) (HE.out.grow HG2.out) HB.out HB2.out).mono ?_
    rintro e w3 ⟨v, L, rfl, hL, hv, hg3⟩
    obtain ⟨oa, co, rfl, _, _⟩ := hv.isSlice
    have HK := Lib.hid (HFR.out L hL HBF.out)
    have HG3 := Lib.hid (HG2.out.step hg3)
    clear hL hv hg3 c1 c2 c3 c4 c5 c6 c7 c0
    cases L with
    | nil =>
      go_wp2
      go_ret
      exact ⟨by rw [HK.out]; rfl, HG3.out⟩
    | cons a t =>
      go_wp2
      go_ret
      exact ⟨by rw [HK.out]; rfl, HG3.out⟩
end Go.Hg

namespace Go.Hg
open Go.RowKit Go.Proofs

def verdV (G : PGraph) (J : PJob) : Value := if endedJ J G.next = true then .tuple #[.bool (keepR G.nodes G.edges J.r), .int .i64 0] else .tuple #[.bool false, .int .i64 161]

set_option maxRecDepth 100000 in
set_option maxHeartbeats 4000000 in
theorem jobVerdict (S SG : Nat → Prop) (B BG : Nat) (J : PJob) (G : PGraph) (w : World) (h : JobOk S w B J) (hi : JobInv J) (hg : GraphOk 106 SG w BG G) (hG : GInv G) (h64 : ∀ e ∈ G.edges, (Lit.int .i64 e.from_).wf = true) :
    Calls Tryz.prog 16 #[.pointer (some ⟨B, 0, none⟩), .pointer (some ⟨BG, 0, none⟩)] w fun e w' => e = .returned (verdV G J) ∧ Grow w w' := by
  have HJ := Lib.hid h; have HI := Lib.hid hi; have HG := Lib.hid hg; have H64 := Lib.hid h64
  have HGA := Lib.hid (gAt_of hg.rd hG)
  obtain ⟨cb, mb, s, r, tm, -, -, -, -, -, -, hB, -, -⟩ := h
  have HB := Lib.hid hB
  clear hi hg hG hB h64
  obtain ⟨be, hbe⟩ : ∃ b, endedJ J G.next = b := ⟨_, rfl⟩
  have HBE := Lib.hid hbe
  clear hbe
  go_enter Tryz.func16, Tryz.ntmps16
  go_wp2_with fail
  refine (jobEnded S SG B BG J G w HJ.out HI.out HG.out).mono ?_
  rintro e w1 ⟨rfl, g1⟩
  rw [HBE.out]
  have HG1 := Lib.hid g1
  clear g1
  cases be
  · go_wp2
    go_ret2
    exact ⟨by unfold verdV; rw [HBE.out]; rfl, HG1.out⟩
  · have HS := Lib.hid (show ∀ w', Grow w1 w' → RuleB w' B J.r from fun w' g => ruleB_of (rest := [.int .i64 J.chunk, .int .i64 J.pos, .chan (some cb), .map (some mb)]) (((HG1.out.step g).heapEq (blk_lt HB.out)).trans HB.out))
    have HD := Lib.hid (show Grow w1 w1.drew from (Grow.rfl' w1).drewd)
    have HAS := Lib.hid (fun (w' : World) (g : Grow w1 w') => HGA.out w' (HG1.out.step g))
    have HKP := Lib.hid (show ∀ w' nv ev, NodesR (fun _ => True) w' nv G.nodes ∧ EdgesR (fun _ => True) w' ev G.edges → Calls Tryz.prog 45 #[nv, ev, J.r.args] w' fun e w2 => e = .returned (.bool (keepR G.nodes G.edges J.r)) ∧ Grow w' w2 from fun w' nv ev h => ruleKeeps G.nodes G.edges nv ev J.r w' _ h.1 h.2 H64.out)
    have HVD := Lib.hid (show verdV G J = .tuple #[.bool (keepR G.nodes G.edges J.r), .int .i64 0] by unfold verdV; rw [HBE.out]; rfl)
    clear HJ HI HG HGA H64
    generalize keepR G.nodes G.edges J.r = kr at *
    go_wp2_with fail
    go_region_held3 (fun w' => RuleB w' B J.r) (first | exact HS.out _ HD.out | exact HS.out _ HG9.out | exact HS.out _ HGC.out | exact HS.out _ HGa.out) (first | (go_at_call 47; refine (HAS.out _ HGa.out).2.mono ?_; rintro e wc ⟨vc, rfl, he, gc⟩; have HP := Lib.hid (And.intro (HNa.out.grow gc) (edgesT he)); have HGC := Lib.hid (HGa.out.step gc); obtain ⟨_, _, rfl, _⟩ := SlR.open he; clear he gc) | (go_at_call 46; refine (HAS.out _ HD.out).1.mono ?_; rintro e wa ⟨va, rfl, hn, ga⟩; have HNa := Lib.hid (nodesT hn); have HGa := Lib.hid (HD.out.step ga); obtain ⟨_, _, rfl, _⟩ := SlR.open hn; clear hn ga) | (go_at_call 45; refine (HKP.out _ _ _ HP.out).mono ?_; rintro e w9 ⟨rfl, g9⟩; have HG9 := Lib.hid (HGC.out.step g9); clear g9))
    all_goals go_wp2
    all_goals go_ret2
    all_goals exact ⟨by rw [HVD.out]; rfl, HG1.out.step HG9.out⟩

set_option maxRecDepth 100000 in
set_option maxHeartbeats 4000000 in
theorem ref23Verdict (S SG : Nat → Prop) (B BG : Nat) (J : PJob) (G : PGraph) (w : World) (h : RJobOk S w B J) (hg : GraphOk 42 SG w BG G) (hG : GInv G) :
    Calls Tryz.prog 30 #[.pointer (some ⟨B, 0, none⟩), .pointer (some ⟨BG, 0, none⟩)] w fun e w' => e = .returned (verdV G J) ∧ Grow w w' := by
  have HJ := Lib.hid h; have HG := Lib.hid hg
  obtain ⟨lv, -, hB, -⟩ := h
  obtain ⟨na, nc, ea, ec, hbg, d0, d1, d2, hn, he⟩ := hg.read
  have HB := Lib.hid hB; have HN := Lib.hid hn; have HE := Lib.hid he
  have HLN := Lib.hid (show G.nodes.length ≤ 1099511627776 ∧ G.edges.length ≤ 1099511627776 by have := hG.items; omega)
  clear hg hG hB hn he d2
  obtain ⟨be, hbe⟩ : ∃ b, endedJ J G.next = b := ⟨_, rfl⟩
  have HBE := Lib.hid hbe
  clear hbe
  go_enter Tryz.func30, Tryz.ntmps30
  go_wp2_with fail
  refine (ref23Ended S SG B BG J G w HJ.out HG.out).mono ?_
  rintro e w1 ⟨rfl, g1⟩
  rw [HBE.out]
  have HG1 := Lib.hid g1
  have HS := Lib.hid (show ∀ w', Grow w1 w' → (RuleB w' B J.r ∧ w'.cell? ⟨BG, 0, none⟩ = some (.slice na G.nodes.length nc) ∧ w'.cell? ⟨BG, 1, none⟩ = some (.slice ea G.edges.length ec)) from fun w' g => ⟨ruleB_of (rest := [.int .i64 J.chunk, .int .i64 J.pos, lv]) (((HG1.out.step g).heapEq (blk_lt HB.out)).trans HB.out), ((HG1.out.step g).cell (p := ⟨BG, 0, none⟩) hbg).trans d0, ((HG1.out.step g).cell (p := ⟨BG, 1, none⟩) hbg).trans d1⟩)
  clear g1 d0 d1
  cases be
  · go_wp2
    go_ret2
    exact ⟨by unfold verdV; rw [HBE.out]; rfl, HG1.out⟩
  · have HD := Lib.hid (show Grow w1 w1.drew from (Grow.rfl' w1).drewd)
    have HVD := Lib.hid (show verdV G J = .tuple #[.bool (keepR G.nodes G.edges J.r), .int .i64 0] by unfold verdV; rw [HBE.out]; rfl)
    have HKP := Lib.hid (show ∀ w', Grow w1 w' → Calls Tryz.prog 17 #[.slice na G.nodes.length nc, .slice ea G.edges.length ec, J.r.args] w' fun e w2 => e = .returned (.bool (keepR G.nodes G.edges J.r)) ∧ Grow w' w2 from fun w' g => ref15Keeps _ _ _ G.nodes G.edges J.r w' (HN.out.grow (HG1.out.step g)) (HE.out.grow (HG1.out.step g)) HLN.out.1 HLN.out.2)
    clear HJ HG HN HE
    generalize keepR G.nodes G.edges J.r = kr at *
    go_wp2_with fail
    go_region_held3 (fun w' => RuleB w' B J.r ∧ w'.cell? ⟨BG, 0, none⟩ = some (.slice na G.nodes.length nc) ∧ w'.cell? ⟨BG, 1, none⟩ = some (.slice ea G.edges.length ec)) (first | exact HS.out _ HD.out | exact HS.out _ HG9.out) (first | (go_at_call 17; refine (HKP.out _ HD.out).mono ?_; rintro e w9 ⟨rfl, g9⟩; have HG9 := Lib.hid (HD.out.step g9); clear g9))
    all_goals go_wp2
    all_goals go_ret2
    all_goals exact ⟨by rw [HVD.out]; rfl, HG1.out.step HG9.out⟩
end Go.Hg

namespace Go.Hg
open Go.RowKit Go.Proofs

set_option maxRecDepth 100000 in
set_option maxHeartbeats 2000000 in
theorem jobRule (S : Nat → Prop) (B : Nat) (J : PJob) (w : World) (h : JobOk S w B J) : Calls Tryz.prog 34 #[.pointer (some ⟨B, 0, none⟩)] w fun e w' => e = .returned J.r.args ∧ Grow w w' := by
  obtain ⟨cb, mb, s, r, tm, hS1, hS2, hS3, hn1, hn2, hn3, hB, hcb, hm⟩ := h
  have hbl := blk_lt hB
  obtain ⟨⟨c0, c1, c2, c3, c4, c5, c6, c7⟩, -, -, -, -⟩ := jobB_of hB
  clear hcb hm hB
  go_enter Tryz.func34, Tryz.ntmps34
  go_wp2
  refine bodyPost_ret (v := J.r.args) ?_ rfl ⟨rfl, (Grow.rfl' w).allocd _⟩
  rw [results_cell1 rfl]
  obtain ⟨d0, d1, d2, d3, d4, d5, d6, d7⟩ := ruleB_of (rest := []) (heap_alloc_new w (.cells #[.int .i64 J.r.id, .int .i64 J.r.kind, .string J.r.typ, .string J.r.name, .string J.r.from_, .string J.r.to_, .int .i64 J.r.n, .int .i64 J.r.state] 23))
  go_simp
end Go.Hg

namespace Go.Hg
def madeK (k : Nat) (l : List POp) : PGraph := (l.take k).foldl (fun G o => stepG typesC o G) PGraph.empty
def madeG (l : List POp) : PGraph := madeK 60 l
theorem madeK_succ {l : List POp} {k : Nat} (hk : k < l.length) : madeK (k + 1) l = stepG typesC l[k] (madeK k l) := by
  unfold madeK
  rw [List.take_succ_eq_append_getElem hk, List.foldl_append]
  rfl
theorem madeK_full {l : List POp} {k : Nat} (h : l.length ≤ k ∨ 60 ≤ k) (hk : k ≤ 60) : madeK k l = madeG l := by
  unfold madeG madeK
  rcases h with h | h
  · rw [List.take_of_length_le h, List.take_of_length_le (by omega)]
  · have : k = 60 := by omega
    rw [this]
theorem madeK_inv (l : List POp) (k : Nat) : GInv (madeK k l) := by
  unfold madeK
  generalize l.take k = m
  have key : ∀ (m : List POp) (G : PGraph), GInv G → GInv (m.foldl (fun G o => stepG typesC o G) G) := by
    intro m
    induction m with
    | nil => exact fun G h => h
    | cons a t ih => exact fun G h => ih _ h.stepG
  exact key m _ GInv.empty
theorem madeK_good (l : List POp) (k : Nat) : goodG (madeK k l) = true := by
  unfold madeK
  generalize l.take k = m
  have key : ∀ (m : List POp) (G : PGraph), goodG G = true → goodG (m.foldl (fun G o => stepG typesC o G) G) = true := by
    intro m
    induction m with
    | nil => exact fun G h => h
    | cons a t ih => exact fun G h => ih _ (goodG_step typesC_names h)
  exact key m _ goodG_empty
def wa : POp := ⟨1, 0, sMan, 0, 0, ByteArray.empty, ⟨0, 0, ByteArray.empty⟩, false⟩
def wb (x y : Int) : POp := ⟨3, 0, sKnows, x, y, ByteArray.empty, ⟨0, 0, ByteArray.empty⟩, false⟩
end Go.Hg

namespace Go.Hg
open Go.RowKit Go.Proofs

def sName : ByteArray := ⟨#[110, 97, 109, 101]⟩
end Go.Hg

namespace Go.Hg
open Go.RowKit Go.Proofs

def IdxAt {α : Type} (f : α → Int) (l : List α) (id r : Int) : Prop := (r = -1 ∧ (l.any fun y => decide (f y = id)) = false) ∨ ∃ (k : Nat) (x : α), r = k ∧ l[k]? = some x ∧ f x = id ∧ (l.any fun y => decide (f y = id)) = true
theorem IdxAt.pos {α : Type} {f : α → Int} {l : List α} {id r : Int} (h : IdxAt f l id r) : decide (0 ≤ r) = (l.any fun y => decide (f y = id)) := by
  rcases h with ⟨rfl, h⟩ | ⟨k, x, rfl, _, _, h⟩
  · rw [h]; rfl
  · rw [h]; simp
def idxZ {α : Type} (f : α → Int) (l : List α) (id : Int) : Int := match l.findIdx? fun y => decide (f y = id) with | some k => (k : Int) | none => -1
theorem idxZ_at {α : Type} (f : α → Int) (l : List α) (id : Int) : IdxAt f l id (idxZ f l id) := by
  unfold idxZ
  cases h : l.findIdx? fun y => decide (f y = id) with
  | none =>
    rw [List.findIdx?_eq_none_iff] at h
    exact .inl ⟨rfl, List.any_eq_false.2 (fun y hy => by have := h y hy; simpa using this)⟩
  | some k =>
    obtain ⟨hl, he, -⟩ := List.findIdx?_eq_some_iff_getElem.1 h
    exact .inr ⟨k, l[k], rfl, List.getElem?_eq_getElem hl, by simpa using he, List.any_eq_true.2 ⟨l[k], List.getElem_mem hl, he⟩⟩
theorem idxZ_hit {α : Type} {f : α → Int} {l : List α} {id : Int} {k : Nat} {x : α} (hx : l[k]? = some x) (hid : f x = id) (hall : ∀ y ∈ l.take k, f y ≠ id) : idxZ f l id = k := by
  obtain ⟨hl, rfl⟩ := List.getElem?_eq_some_iff.1 hx
  have h : (l.findIdx? fun y => decide (f y = id)) = some k := List.findIdx?_eq_some_iff_getElem.2 ⟨hl, by simpa using hid, fun j hj => by
    have := hall l[j] (List.mem_take_iff_getElem.2 ⟨j, by omega, rfl⟩)
    simpa using this⟩
  unfold idxZ
  rw [h]
theorem idxZ_miss {α : Type} {f : α → Int} {l : List α} {id : Int} (hall : ∀ y ∈ l, f y ≠ id) : idxZ f l id = -1 := by
  have h : (l.findIdx? fun y => decide (f y = id)) = none := List.findIdx?_eq_none_iff.2 fun y hy => by have := hall y hy; simpa using this
  unfold idxZ
  rw [h]

set_option maxRecDepth 100000 in
set_option maxHeartbeats 1000000 in
theorem refNode (S : Nat → Prop) (B : Nat) (G : PGraph) (id : Int) (w : World) (h : GraphRd 42 S w B G) :
    Calls Tryz.prog 57 #[.pointer (some ⟨B, 0, none⟩), .int .i64 id] w fun e w' => e = .returned (.int .i64 (idxZ (fun x : PNode => x.id) G.nodes id)) ∧ w' = w := by
  obtain ⟨na, nc, ea, ec, hB, g0, g1, g2, hn, -⟩ := h.read
  obtain ⟨_, _, hv, hal, hac, hA⟩ := SlR.open hn
  simp only [Value.slice.injEq, true_and] at hv
  obtain ⟨rfl, rfl⟩ := hv
  unfold maxLen at hac
  have HA := Lib.hid hA
  clear h hn hA
  generalize hll : G.nodes = l at *
  have HLL := Lib.hid hll
  clear hll
  go_enter Tryz.func57, Tryz.ntmps57
  go_wp2
  go_loopg [5] l.length (fun g i wr => ∃ k : Nat, k ≤ l.length ∧ g = l.length - k ∧ i = .int .i64 k ∧ (∀ y ∈ l.take k, y.id ≠ id) ∧ wr = w)
  case atStart => exact ⟨0, by omega, by omega, rfl, by simp, rfl⟩
  case round =>
    obtain ⟨k, hk, rfl, rfl, hall, rfl⟩ := hrel
    have HALL := Lib.hid hall; clear hall
    by_cases hkl : k < l.length
    · obtain ⟨ba, oa, ra, rfl, hSa, hba, hRa, hca⟩ := HA.out k l[k] (List.getElem?_eq_getElem hkl)
      obtain ⟨pva, hba', a0, a1, a2, hpa⟩ := hRa.at hba (Grow.rfl' _) hca
      clear hca hRa hSa hba hpa
      have HE := Lib.hid (show l[k]? = some l[k] from List.getElem?_eq_getElem hkl)
      have HT := Lib.hid (show l.take (k + 1) = l.take k ++ [l[k]] from List.take_succ_eq_append_getElem hkl)
      generalize l[k] = x at *
      by_cases hx : x.id = id
      · have hx' : (x.id == id) = true := by simpa using hx
        have HX := Lib.hid hx
        clear hx
        go_wp2
        go_ret
        exact ⟨by rw [idxZ_hit HE.out HX.out HALL.out]; rfl, rfl⟩
      · have hx' : (x.id == id) = false := by simpa using hx
        have HX := Lib.hid hx
        clear hx
        go_wp2_with fail
        go_roundg (l.length - (k + 1))
        case measure => omega
        case rel => exact ⟨k + 1, by omega, rfl, by go_num, by rw [HT.out]; intro y hy; rcases List.mem_append.1 hy with h | h; exact HALL.out y h; simp at h; subst h; exact HX.out, rfl⟩
    · have h1 : l.take k = l := List.take_of_length_le (by omega)
      have h2 := HALL.out
      rw [h1] at h2
      have H2 := Lib.hid h2
      clear h1 h2
      go_wp2
      go_ret
      exact ⟨by rw [idxZ_miss H2.out]; rfl, rfl⟩

set_option maxRecDepth 100000 in
set_option maxHeartbeats 1000000 in
theorem refEdge (S : Nat → Prop) (B : Nat) (G : PGraph) (id : Int) (w : World) (h : GraphRd 42 S w B G) :
    Calls Tryz.prog 59 #[.pointer (some ⟨B, 0, none⟩), .int .i64 id] w fun e w' => e = .returned (.int .i64 (idxZ (fun x : PEdge => x.id) G.edges id)) ∧ w' = w := by
  obtain ⟨na, nc, ea, ec, hB, g0, g1, g2, -, hn⟩ := h.read
  obtain ⟨_, _, hv, hal, hac, hA⟩ := SlR.open hn
  simp only [Value.slice.injEq, true_and] at hv
  obtain ⟨rfl, rfl⟩ := hv
  unfold maxLen at hac
  have HA := Lib.hid hA
  clear h hn hA
  generalize hll : G.edges = l at *
  have HLL := Lib.hid hll
  clear hll
  go_enter Tryz.func59, Tryz.ntmps59
  go_wp2
  go_loopg [5] l.length (fun g i wr => ∃ k : Nat, k ≤ l.length ∧ g = l.length - k ∧ i = .int .i64 k ∧ (∀ y ∈ l.take k, y.id ≠ id) ∧ wr = w)
  case atStart => exact ⟨0, by omega, by omega, rfl, by simp, rfl⟩
  case round =>
    obtain ⟨k, hk, rfl, rfl, hall, rfl⟩ := hrel
    have HALL := Lib.hid hall; clear hall
    by_cases hkl : k < l.length
    · obtain ⟨ba, oa, ra, rfl, hSa, hba, hRa, hca⟩ := HA.out k l[k] (List.getElem?_eq_getElem hkl)
      obtain ⟨pva, hba', a0, a1, a2, a3, a4, hpa⟩ := hRa.at hba (Grow.rfl' _) hca
      clear hca hRa hSa hba hpa
      have HE := Lib.hid (show l[k]? = some l[k] from List.getElem?_eq_getElem hkl)
      have HT := Lib.hid (show l.take (k + 1) = l.take k ++ [l[k]] from List.take_succ_eq_append_getElem hkl)
      generalize l[k] = x at *
      by_cases hx : x.id = id
      · have hx' : (x.id == id) = true := by simpa using hx
        have HX := Lib.hid hx
        clear hx
        go_wp2
        go_ret
        exact ⟨by rw [idxZ_hit HE.out HX.out HALL.out]; rfl, rfl⟩
      · have hx' : (x.id == id) = false := by simpa using hx
        have HX := Lib.hid hx
        clear hx
        go_wp2_with fail
        go_roundg (l.length - (k + 1))
        case measure => omega
        case rel => exact ⟨k + 1, by omega, rfl, by go_num, by rw [HT.out]; intro y hy; rcases List.mem_append.1 hy with h | h; exact HALL.out y h; simp at h; subst h; exact HX.out, rfl⟩
    · have h1 : l.take k = l := List.take_of_length_le (by omega)
      have h2 := HALL.out
      rw [h1] at h2
      have H2 := Lib.hid h2
      clear h1 h2
      go_wp2
      go_ret
      exact ⟨by rw [idxZ_miss H2.out]; rfl, rfl⟩
end Go.Hg

namespace Go.Hg
open Go.RowKit Go.Proofs

def atG (G : PGraph) (id : Int) : List Int := (G.edges.filter fun x => atE x id).map (·.id)
set_option maxRecDepth 100000 in
set_option maxHeartbeats 2000000 in
theorem refAt (S : Nat → Prop) (B : Nat) (G : PGraph) (id : Int) (w : World) (h : GraphRd 42 S w B G) (hb : G.edges.length ≤ 1099511627776) :
    Calls Tryz.prog 55 #[.pointer (some ⟨B, 0, none⟩), .int .i64 id] w (IdsPost (atG G id) w) := by
  obtain ⟨na, nc, ea, ec, hB, c0, c1, c2, -, hn⟩ := h.read
  obtain ⟨iP, hiP, hzP0, hzP1, hzP2⟩ := info_parts infoInt
  obtain ⟨_, _, hv, hal, hac, hA⟩ := SlR.open hn
  simp only [Value.slice.injEq, true_and] at hv
  obtain ⟨rfl, rfl⟩ := hv
  unfold maxLen at hac
  have HS := Lib.hid (show ∀ w', Grow w w' → B < w'.heap.size ∧ w'.cell? ⟨B, 1, none⟩ = some (.slice ea G.edges.length ec) from fun w' hg => ⟨Nat.lt_of_lt_of_le hB hg.size, (hg.cell (p := ⟨B, 1, none⟩) hB).trans c1⟩)
  have HA := Lib.hid hA; have HB := Lib.hid hb
  clear h hn hA hb c0 c2
  unfold atG
  generalize G.edges = l at *
  go_enter Tryz.func55, Tryz.ntmps55
  go_wp2
  go_loopg [5, 6] l.length (fun g vo i wr => ∃ (k : Nat) (ob : Option Nat), k ≤ l.length ∧ g = l.length - k ∧ i = .int .i64 k ∧ IdsO wr vo (((l.take k).filter fun x => atE x id).map (·.id)) ob ∧ (∀ b, ob = some b → w.heap.size ≤ b) ∧ Grow w wr)
  case atStart => exact ⟨0, none, by omega, by omega, rfl, OwnS.nil _ _ _, by simp, Grow.rfl' w⟩
  case round =>
    obtain ⟨k, ob, hk, rfl, rfl, hown, hob, hgr⟩ := hrel
    have HOWN := Lib.hid hown; have HOB := Lib.hid hob; have HGR := Lib.hid hgr
    obtain ⟨oo, co, rfl, -, -⟩ := hown.isSlice
    obtain ⟨hBr, c1r⟩ := HS.out _ HGR.out
    clear c1
    by_cases hkl : k < l.length
    · obtain ⟨ba, oa, ra, rfl, hSa, hba, hRa, hca⟩ := HA.out k l[k] (List.getElem?_eq_getElem hkl)
      obtain ⟨pva, hba', a0, a1, a2, a3, a4, hpa⟩ := hRa.at hba hgr hca
      clear hca hRa hSa hba hgr hown hob hpa
      have HT := Lib.hid (show l.take (k + 1) = l.take k ++ [l[k]] from List.take_succ_eq_append_getElem hkl)
      have HFL := Lib.hid (show ((l.take k).filter fun x => atE x id).length ≤ l.length from Nat.le_trans (List.length_filter_le _ _) (List.length_take_le' k l))
      generalize l[k] = p at *
      generalize hfl : ((l.take k).filter fun x => atE x id).map (·.id) = fl at *
      have hfll : ((l.take k).filter fun x => atE x id).length = fl.length := by rw [← hfl, List.length_map]
      rw [hfll] at HFL
      have HFF := Lib.hid hfl
      clear hfl hfll
      by_cases hp1 : p.from_ = id
      · have hq1 : (p.from_ == id) = true := by simpa using hp1
        have HATE := Lib.hid (show atE p id = true by unfold atE; simp [hp1])
        clear hp1
        have HW := Lib.hid (show ∀ o1, Grow wr (wr.alloc o1) from fun o1 => (Grow.rfl' wr).allocd o1)
        have hf1 : Hid (((l.take (k + 1)).filter fun x => atE x id).map (·.id) = fl ++ [p.id]) := Lib.hid (by rw [HT.out, List.filter_append, ← HFF.out]; simp [HATE.out])
        have HRD := Lib.hid (Rd.lit wr #[.int .i64 p.id] 2 1 1 rfl)
        go_wp2_with (at_builtin; go_must (refine wpList_append_S _ rfl (.tmp 38) (.tmp 47) 25 rfl 2 iP _ 1 8 Tryz.underlying25 hiP hzP0 hzP1 hzP2 rfl (by decide) (.slice oo fl.length co) fl.length _ ob rfl (HOWN.out.grow (HW.out _)) (.slice (some ⟨wr.heap.size, 0, none⟩) 1 1) rfl 1 _ HRD.out (one1 _ rfl) (by have := HB.out; have := HFL.out; unfold maxLen; omega) (by have := HB.out; have := HFL.out; omega) ?_))
        intro v' w5 ob' h1 h2 h3
        have hown5 : IdsO w5 v' (((l.take (k + 1)).filter fun x => atE x id).map (·.id)) ob' := by
          rw [hf1.out]
          unfold IdsO
          rw [List.length_append, List.map_append]
          exact h1
        have hsz := HGR.out.size
        have hob5 : ∀ b, ob' = some b → w.heap.size ≤ b := by
          intro b hb
          rcases h3 with h3 | ⟨g, h3, hge⟩
          · exact HOB.out b (by rw [← h3]; exact hb)
          · rw [h3] at hb; cases hb; first | omega | (simp at hge; omega)
        have hg5 : Grow w w5 := (HGR.out.step (HW.out _)).modd h2 (fun b hb => HOB.out b hb)
        have H5 := Lib.hid hown5; have HO5 := Lib.hid hob5; have HG5 := Lib.hid hg5
        clear h1 h2 h3 hown5 hob5 hg5 hsz
        go_wp2_with fail
        go_roundg (l.length - (k + 1))
        case measure => omega
        case rel => exact ⟨k + 1, ob', by omega, rfl, by go_num, H5.out, HO5.out, HG5.out⟩
      · have hq1 : (p.from_ == id) = false := by simpa using hp1
        by_cases hp2 : p.to_ = id
        · have hq2 : (p.to_ == id) = true := by simpa using hp2
          have HATE := Lib.hid (show atE p id = true by unfold atE; simp [hp2])
          clear hp1 hp2
          have HW := Lib.hid (show ∀ o1, Grow wr (wr.alloc o1) from fun o1 => (Grow.rfl' wr).allocd o1)
          have hf1 : Hid (((l.take (k + 1)).filter fun x => atE x id).map (·.id) = fl ++ [p.id]) := Lib.hid (by rw [HT.out, List.filter_append, ← HFF.out]; simp [HATE.out])
          have HRD := Lib.hid (Rd.lit wr #[.int .i64 p.id] 2 1 1 rfl)
          go_wp2_with (at_builtin; go_must (refine wpList_append_S _ rfl (.tmp 38) (.tmp 47) 25 rfl 2 iP _ 1 8 Tryz.underlying25 hiP hzP0 hzP1 hzP2 rfl (by decide) (.slice oo fl.length co) fl.length _ ob rfl (HOWN.out.grow (HW.out _)) (.slice (some ⟨wr.heap.size, 0, none⟩) 1 1) rfl 1 _ HRD.out (one1 _ rfl) (by have := HB.out; have := HFL.out; unfold maxLen; omega) (by have := HB.out; have := HFL.out; omega) ?_))
          intro v' w5 ob' h1 h2 h3
          have hown5 : IdsO w5 v' (((l.take (k + 1)).filter fun x => atE x id).map (·.id)) ob' := by
            rw [hf1.out]
            unfold IdsO
            rw [List.length_append, List.map_append]
            exact h1
          have hsz := HGR.out.size
          have hob5 : ∀ b, ob' = some b → w.heap.size ≤ b := by
            intro b hb
            rcases h3 with h3 | ⟨g, h3, hge⟩
            · exact HOB.out b (by rw [← h3]; exact hb)
            · rw [h3] at hb; cases hb; first | omega | (simp at hge; omega)
          have hg5 : Grow w w5 := (HGR.out.step (HW.out _)).modd h2 (fun b hb => HOB.out b hb)
          have H5 := Lib.hid hown5; have HO5 := Lib.hid hob5; have HG5 := Lib.hid hg5
          clear h1 h2 h3 hown5 hob5 hg5 hsz
          go_wp2_with fail
          go_roundg (l.length - (k + 1))
          case measure => omega
          case rel => exact ⟨k + 1, ob', by omega, rfl, by go_num, H5.out, HO5.out, HG5.out⟩
        · have hq2 : (p.to_ == id) = false := by simpa using hp2
          have HATE := Lib.hid (show atE p id = false by unfold atE; simp [hp1, hp2])
          clear hp1 hp2
          have hf1 : Hid (((l.take (k + 1)).filter fun x => atE x id).map (·.id) = fl) := Lib.hid (by rw [HT.out, List.filter_append, ← HFF.out]; simp [HATE.out])
          go_wp2_with fail
          go_roundg (l.length - (k + 1))
          case measure => omega
          case rel => exact ⟨k + 1, ob, by omega, rfl, by go_num, by rw [hf1.out]; exact HOWN.out, HOB.out, HGR.out⟩
    · have hkk : l.take k = l := List.take_of_length_le (by omega)
      rw [hkk] at HOWN
      clear hown hob hgr
      simp only [hkk]
      go_wp2
      go_ret
      exact ⟨_, ob, rfl, HOWN.out, HOB.out, HGR.out⟩

def RPropsPost (S : Nat → Prop) (G : PGraph) (id : Int) (w : World) (e : Ending) (w' : World) : Prop :=
  ((findP G id = none ∧ e = .returned (.tuple #[.slice none 0 0, .bool false])) ∨ ∃ ps pv, findP G id = some ps ∧ e = .returned (.tuple #[pv, .bool true]) ∧ PropsR S w pv ps) ∧ w' = w
theorem idxZ_none {α : Type} {f : α → Int} {l : List α} {id : Int} (h : (l.any fun y => decide (f y = id)) = false) : idxZ f l id = -1 :=
  idxZ_miss fun y hy => by have := List.any_eq_false.1 h y hy; simpa using this
theorem idxZ_some {α : Type} {f : α → Int} {l : List α} {id : Int} (h : (l.any fun y => decide (f y = id)) = true) : ∃ (k : Nat) (x : α), idxZ f l id = k ∧ k < l.length ∧ l[k]? = some x ∧ f x = id := by
  rcases idxZ_at f l id with ⟨-, h2⟩ | ⟨k, x, h1, h2, h3, -⟩
  · rw [h] at h2; cases h2
  · exact ⟨k, x, h1, (List.getElem?_eq_some_iff.1 h2).1, h2, h3⟩
theorem findP_node {G : PGraph} {id : Int} {k : Nat} {x : PNode} (hs : (G.nodes.map (·.id)).Pairwise (· < ·)) (hx : G.nodes[k]? = some x) (hid : x.id = id) : findP G id = some x.props := by
  unfold findP
  rw [find_idx (fun x : PNode => x.id) hs hx hid]
theorem findP_edge {G : PGraph} {id : Int} {k : Nat} {x : PEdge} (hn : hasN G id = false) (hs : (G.edges.map (·.id)).Pairwise (· < ·)) (hx : G.edges[k]? = some x) (hid : x.id = id) : findP G id = some x.props := by
  unfold findP
  rw [find_none (fun x : PNode => x.id) hn, find_idx (fun x : PEdge => x.id) hs hx hid]
theorem findP_no {G : PGraph} {id : Int} (hn : hasN G id = false) (he : hasE G id = false) : findP G id = none := by
  unfold findP
  rw [find_none (fun x : PNode => x.id) hn, find_none (fun x : PEdge => x.id) he]
set_option maxRecDepth 100000 in
set_option maxHeartbeats 2000000 in
theorem refProps (S : Nat → Prop) (B : Nat) (G : PGraph) (id : Int) (w : World) (h : GraphRd 42 S w B G) (hs : (G.nodes.map (·.id)).Pairwise (· < ·)) (hse : (G.edges.map (·.id)).Pairwise (· < ·)) :
    Calls Tryz.prog 97 #[.pointer (some ⟨B, 0, none⟩), .int .i64 id] w (RPropsPost S G id w) := by
  have HR := Lib.hid h; have HSN := Lib.hid hs; have HSE := Lib.hid hse
  obtain ⟨na, nc, ea, ec, hB, c0, c1, c2, hn, he⟩ := h.read
  obtain ⟨_, _, hv, hal, hac, hA⟩ := SlR.open hn
  simp only [Value.slice.injEq, true_and] at hv
  obtain ⟨rfl, rfl⟩ := hv
  obtain ⟨_, _, hv, hel, hec, hE⟩ := SlR.open he
  simp only [Value.slice.injEq, true_and] at hv
  obtain ⟨rfl, rfl⟩ := hv
  unfold maxLen at hac hec
  have HA := Lib.hid hA; have HE := Lib.hid hE
  clear h hn he hA hE hs hse
  go_enter Tryz.func97, Tryz.ntmps97
  go_wp2_with fail
  refine (refNode S B G id _ HR.out).mono ?_
  rintro e w2 ⟨rfl, rfl⟩
  cases hN : hasN G id
  · rw [idxZ_none (f := fun x : PNode => x.id) hN]
    have HN := Lib.hid hN; clear hN
    go_wp2_with fail
    refine (refEdge S B G id _ HR.out).mono ?_
    rintro e w2 ⟨rfl, rfl⟩
    cases hE : hasE G id
    · rw [idxZ_none (f := fun x : PEdge => x.id) hE]
      have HX := Lib.hid (findP_no HN.out hE); clear hE
      go_wp2
      go_ret2
      exact ⟨.inl ⟨HX.out, rfl⟩, rfl⟩
    · obtain ⟨k, x, hz, hkl, hx, hid⟩ := idxZ_some (f := fun x : PEdge => x.id) hE
      rw [hz]
      have HX := Lib.hid (findP_edge HN.out HSE.out hx hid)
      obtain ⟨ba, oa, ra, rfl, hSa, hba, hRa, hca⟩ := HE.out k x hx
      obtain ⟨pva, hba', a0, a1, a2, a3, a4, hpa⟩ := hRa.at hba (Grow.rfl' _) hca
      obtain ⟨pa, pc, rfl⟩ := hpa.isSlice
      have HPA := Lib.hid hpa
      have hk0 : decide ((0 : Int) ≤ (k : Int)) = true := by simp
      clear hE hz hx hid hca hRa hSa hba hpa
      go_wp2
      go_ret2
      exact ⟨.inr ⟨x.props, _, HX.out, rfl, HPA.out⟩, rfl⟩
  · obtain ⟨k, x, hz, hkl, hx, hid⟩ := idxZ_some (f := fun x : PNode => x.id) hN
    rw [hz]
    have HX := Lib.hid (findP_node HSN.out hx hid)
    obtain ⟨ba, oa, ra, rfl, hSa, hba, hRa, hca⟩ := HA.out k x hx
    obtain ⟨pva, hba', a0, a1, a2, hpa⟩ := hRa.at hba (Grow.rfl' _) hca
    obtain ⟨pa, pc, rfl⟩ := hpa.isSlice
    have HPA := Lib.hid hpa
    have hk0 : decide ((0 : Int) ≤ (k : Int)) = true := by simp
    clear hN hz hx hid hca hRa hSa hba hpa
    go_wp2
    go_ret2
    exact ⟨.inr ⟨x.props, _, HX.out, rfl, HPA.out⟩, rfl⟩
end Go.Hg

namespace Go.Hg
open Go.RowKit Go.Proofs

theorem ob_case {o o' : Option Nat} {n m : Nat} (h : o' = o ∨ ∃ g, o' = some g ∧ m ≤ g) (hn : n ≤ m) (ho : ∀ g, o = some g → n ≤ g) : ∀ g, o' = some g → n ≤ g := by
  intro g hg
  rcases h with h | ⟨g', h, hm⟩
  · exact ho g (h ▸ hg)
  · rw [h] at hg
    cases hg
    omega
theorem raddN_close {T : TypeId} {S R : Nat → Prop} {w wA w5 w6 : World} {B : Nat} {G : PGraph} {on oe on5 : Option Nat} {ev v5 : Value} {rows : List (List Value)} {o : POp}
    (h2 : S B) (h3 : ¬ R B) (h4 : ∀ b, R b → S b ∧ b < w.heap.size) (h5 : ∀ g, on = some g → S g ∧ ¬ R g ∧ g ≠ B ∧ g < w.heap.size ∧ oe ≠ some g) (h6 : ∀ g, oe = some g → S g ∧ ¬ R g ∧ g ≠ B ∧ g < w.heap.size ∧ on ≠ some g)
    (h8 : OwnL w 115 5 (REdge R w) ev G.edges oe) (r1 : rows.length = G.nodes.length) (r3 : ∀ (k : Nat) x r, G.nodes[k]? = some x → rows[k]? = some r → RNode R w x r ∧ r.length = 3)
    (hA : Mod (fun b => b = B) w wA) (k1 : OwnS w5 113 3 v5 (G.nodes.length + 1) (rows.flatten ++ [.int .i64 G.next, .string o.typ, .slice none 0 0]) on5) (k2 : Mod (fun k => on = some k) wA w5)
    (k3 : on5 = on ∨ ∃ g, on5 = some g ∧ wA.heap.size ≤ g) (m56 : Mod (fun b => b = B) w5 w6) (hb6 : w6.heap[B]? = some (.cells #[v5, ev, .int .i64 (G.next + 1)] T (0, 0))) (hBw : B < w.heap.size) :
    GraphOk T (fun b => S b ∨ w.heap.size ≤ b) w6 B (addNodeG o G) ∧ Mod S w w6 := by
  have m5 : Mod (fun b => b = B ∨ on = some b) w w5 := (hA.mono (fun _ h => .inl h)).step (k2.mono (fun _ h => .inr h))
  have m6 : Mod (fun b => b = B ∨ on = some b) w w6 := m5.step (m56.mono (fun _ h => .inl h))
  have hsz := hA.size
  have hR : ∀ b, R b → ¬ (b = B ∨ on = some b) := fun b hb h => h.elim (fun e => h3 (e ▸ hb)) (fun e => (h5 b e).2.1 hb)
  have h5B : ∀ g, on5 = some g → g ≠ B ∧ (S g ∨ w.heap.size ≤ g) ∧ ¬ R g := by
    intro g hg
    rcases k3 with k3 | ⟨g', k3, hge⟩
    · rw [k3] at hg
      exact ⟨(h5 g hg).2.2.1, .inl (h5 g hg).1, (h5 g hg).2.1⟩
    · rw [k3] at hg; cases hg
      exact ⟨by omega, .inr (by omega), fun hh => by have := (h4 _ hh).2; omega⟩
  refine ⟨⟨v5, ev, R, on5, oe, hb6, .inl h2, h3, fun b hb => ⟨.inl (h4 b hb).1, Nat.lt_of_lt_of_le (h4 b hb).2 m6.size⟩, fun g hg => (h5B g hg).2, fun g hg => ⟨.inl (h6 g hg).1, (h6 g hg).2.1⟩, ?_, ?_⟩, m6.mono (fun b hb => hb.elim (fun e => e ▸ h2) (fun e => (h5 b e).1))⟩
  · refine ⟨rows ++ [[.int .i64 G.next, .string o.typ, .slice none 0 0]], by show _ = (G.nodes ++ [_]).length; simp [r1], fun k y r hk hk' => ?_, ?_⟩
    · change (G.nodes ++ [_])[k]? = some y at hk
      by_cases hlt : k < G.nodes.length
      · rw [List.getElem?_append_left hlt] at hk
        rw [List.getElem?_append_left (by omega)] at hk'
        obtain ⟨a, b⟩ := r3 k y r hk hk'
        exact ⟨a.mod m6 hR, b⟩
      · rw [List.getElem?_append_right (by omega)] at hk
        rw [List.getElem?_append_right (by omega), r1] at hk'
        have e : k - G.nodes.length = 0 := by have := (List.getElem?_eq_some_iff.1 hk).1; simp at this; omega
        rw [e] at hk hk'
        simp at hk hk'
        subst hk; subst hk'
        exact ⟨⟨_, rfl, PropsR.nil _ _⟩, rfl⟩
    · have h := k1.keep (w' := w6) (fun g hg => m56.block g (k1.lt g hg) (h5B g hg).1)
      show OwnS _ _ _ _ (G.nodes ++ [_]).length _ _
      rw [List.length_append, List.length_singleton]
      simpa using h
  · exact h8.edgesMod m6 (fun g hg h => h.elim (h6 g hg).2.2.1 (h6 g hg).2.2.2.2) hR

theorem raddE_close {T : TypeId} {S R : Nat → Prop} {w wA w5 w6 : World} {B : Nat} {G : PGraph} {on oe on5 : Option Nat} {nv v5 : Value} {rows : List (List Value)} {o : POp}
    (h2 : S B) (h3 : ¬ R B) (h4 : ∀ b, R b → S b ∧ b < w.heap.size) (h5 : ∀ g, on = some g → S g ∧ ¬ R g ∧ g ≠ B ∧ g < w.heap.size ∧ oe ≠ some g) (h6 : ∀ g, oe = some g → S g ∧ ¬ R g ∧ g ≠ B ∧ g < w.heap.size ∧ on ≠ some g)
    (h7 : OwnL w 113 3 (RNode R w) nv G.nodes on) (r1 : rows.length = G.edges.length) (r3 : ∀ (k : Nat) x r, G.edges[k]? = some x → rows[k]? = some r → REdge R w x r ∧ r.length = 5)
    (hA : Mod (fun b => b = B) w wA) (k1 : OwnS w5 115 5 v5 (G.edges.length + 1) (rows.flatten ++ [.int .i64 G.next, .string o.typ, .int .i64 o.from_, .int .i64 o.to_, .slice none 0 0]) on5) (k2 : Mod (fun k => oe = some k) wA w5)
    (k3 : on5 = oe ∨ ∃ g, on5 = some g ∧ wA.heap.size ≤ g) (m56 : Mod (fun b => b = B) w5 w6) (hb6 : w6.heap[B]? = some (.cells #[nv, v5, .int .i64 (G.next + 1)] T (0, 0))) (hBw : B < w.heap.size) :
    GraphOk T (fun b => S b ∨ w.heap.size ≤ b) w6 B (addEdgeG o G) ∧ Mod S w w6 := by
  have m5 : Mod (fun b => b = B ∨ oe = some b) w w5 := (hA.mono (fun _ h => .inl h)).step (k2.mono (fun _ h => .inr h))
  have m6 : Mod (fun b => b = B ∨ oe = some b) w w6 := m5.step (m56.mono (fun _ h => .inl h))
  have hsz := hA.size
  have hR : ∀ b, R b → ¬ (b = B ∨ oe = some b) := fun b hb h => h.elim (fun e => h3 (e ▸ hb)) (fun e => (h6 b e).2.1 hb)
  have h5B : ∀ g, on5 = some g → g ≠ B ∧ (S g ∨ w.heap.size ≤ g) ∧ ¬ R g := by
    intro g hg
    rcases k3 with k3 | ⟨g', k3, hge⟩
    · rw [k3] at hg
      exact ⟨(h6 g hg).2.2.1, .inl (h6 g hg).1, (h6 g hg).2.1⟩
    · rw [k3] at hg; cases hg
      exact ⟨by omega, .inr (by omega), fun hh => by have := (h4 _ hh).2; omega⟩
  refine ⟨⟨nv, v5, R, on, on5, hb6, .inl h2, h3, fun b hb => ⟨.inl (h4 b hb).1, Nat.lt_of_lt_of_le (h4 b hb).2 m6.size⟩, fun g hg => ⟨.inl (h5 g hg).1, (h5 g hg).2.1⟩, fun g hg => (h5B g hg).2, ?_, ?_⟩, m6.mono (fun b hb => hb.elim (fun e => e ▸ h2) (fun e => (h6 b e).1))⟩
  · exact h7.nodesMod m6 (fun g hg h => h.elim (h5 g hg).2.2.1 (h5 g hg).2.2.2.2) hR
  · refine ⟨rows ++ [[.int .i64 G.next, .string o.typ, .int .i64 o.from_, .int .i64 o.to_, .slice none 0 0]], by show _ = (G.edges ++ [_]).length; simp [r1], fun k y r hk hk' => ?_, ?_⟩
    · change (G.edges ++ [_])[k]? = some y at hk
      by_cases hlt : k < G.edges.length
      · rw [List.getElem?_append_left hlt] at hk
        rw [List.getElem?_append_left (by omega)] at hk'
        obtain ⟨a, b⟩ := r3 k y r hk hk'
        exact ⟨a.mod m6 hR, b⟩
      · rw [List.getElem?_append_right (by omega)] at hk
        rw [List.getElem?_append_right (by omega), r1] at hk'
        have e : k - G.edges.length = 0 := by have := (List.getElem?_eq_some_iff.1 hk).1; simp at this; omega
        rw [e] at hk hk'
        simp at hk hk'
        subst hk; subst hk'
        exact ⟨⟨_, rfl, PropsR.nil _ _⟩, rfl⟩
    · have h := k1.keep (w' := w6) (fun g hg => m56.block g (k1.lt g hg) (h5B g hg).1)
      show OwnS _ _ _ _ (G.edges ++ [_]).length _ _
      rw [List.length_append, List.length_singleton]
      simpa using h

theorem rcutN_close {T : TypeId} {S R : Nat → Prop} {w w6 w7 : World} {B k : Nat} {G : PGraph} {on oe o6 : Option Nat} {ev v6 : Value} {rows : List (List Value)}
    (h2 : S B) (h3 : ¬ R B) (h4 : ∀ b, R b → S b ∧ b < w.heap.size) (_h5 : ∀ g, on = some g → S g ∧ ¬ R g ∧ g ≠ B ∧ g < w.heap.size ∧ oe ≠ some g) (h6 : ∀ g, oe = some g → S g ∧ ¬ R g ∧ g ≠ B ∧ g < w.heap.size ∧ on ≠ some g)
    (h8 : OwnL w 115 5 (REdge R w) ev G.edges oe) (r1 : rows.length = G.nodes.length) (r2 : ∀ r ∈ rows, r.length = 3) (r3 : ∀ (k : Nat) x r, G.nodes[k]? = some x → rows[k]? = some r → RNode R w x r ∧ r.length = 3)
    (hkl : k < G.nodes.length) (k1 : OwnS w6 113 3 v6 (G.nodes.length - 1) (rows.flatten.take (k * 3) ++ rows.flatten.drop ((k + 1) * 3)) o6) (k2 : Grow w w6)
    (k3 : ∀ g, o6 = some g → w.heap.size ≤ g) (m67 : Mod (fun b => b = B) w6 w7) (hb7 : w7.heap[B]? = some (.cells #[v6, ev, .int .i64 G.next] T (0, 0))) (hBw : B < w.heap.size) :
    GraphOk T (fun b => S b ∨ w.heap.size ≤ b) w7 B ⟨G.nodes.take k ++ G.nodes.drop (k + 1), G.edges, G.next⟩ ∧ Mod (fun b => b = B) w w7 := by
  have m7 : Mod (fun b => b = B) w w7 := (Mod.of_grow k2).step m67
  have hRB : ∀ b, R b → ¬ (b = B) := fun b hb e => h3 (e ▸ hb)
  refine ⟨⟨v6, ev, R, o6, oe, hb7, .inl h2, h3, fun b hb => ⟨.inl (h4 b hb).1, Nat.lt_of_lt_of_le (h4 b hb).2 m7.size⟩, fun g hg => ⟨.inr (k3 g hg), fun hh => by have := (h4 _ hh).2; have := k3 g hg; omega⟩, fun g hg => ⟨.inl (h6 g hg).1, (h6 g hg).2.1⟩, ?_, ?_⟩, m7⟩
  · refine OwnL.erase r1 r2 r3 (fun x r _ hR => hR.mod m7 hRB) hkl ?_
    exact k1.keep (fun g hg => m67.block g (k1.lt g hg) (fun e => by have := k3 g hg; omega))
  · exact h8.edgesMod m7 (fun g hg e => (h6 g hg).2.2.1 e) hRB

theorem rcutE_close {T : TypeId} {S R : Nat → Prop} {w w6 w7 : World} {B k : Nat} {G : PGraph} {on oe o6 : Option Nat} {nv v6 : Value} {rows : List (List Value)}
    (h2 : S B) (h3 : ¬ R B) (h4 : ∀ b, R b → S b ∧ b < w.heap.size) (h5 : ∀ g, on = some g → S g ∧ ¬ R g ∧ g ≠ B ∧ g < w.heap.size ∧ oe ≠ some g) (_h6 : ∀ g, oe = some g → S g ∧ ¬ R g ∧ g ≠ B ∧ g < w.heap.size ∧ on ≠ some g)
    (h7 : OwnL w 113 3 (RNode R w) nv G.nodes on) (r1 : rows.length = G.edges.length) (r2 : ∀ r ∈ rows, r.length = 5) (r3 : ∀ (k : Nat) x r, G.edges[k]? = some x → rows[k]? = some r → REdge R w x r ∧ r.length = 5)
    (hkl : k < G.edges.length) (k1 : OwnS w6 115 5 v6 (G.edges.length - 1) (rows.flatten.take (k * 5) ++ rows.flatten.drop ((k + 1) * 5)) o6) (k2 : Grow w w6)
    (k3 : ∀ g, o6 = some g → w.heap.size ≤ g) (m67 : Mod (fun b => b = B) w6 w7) (hb7 : w7.heap[B]? = some (.cells #[nv, v6, .int .i64 G.next] T (0, 0))) (hBw : B < w.heap.size) :
    GraphOk T (fun b => S b ∨ w.heap.size ≤ b) w7 B ⟨G.nodes, G.edges.take k ++ G.edges.drop (k + 1), G.next⟩ ∧ Mod (fun b => b = B) w w7 := by
  have m7 : Mod (fun b => b = B) w w7 := (Mod.of_grow k2).step m67
  have hRB : ∀ b, R b → ¬ (b = B) := fun b hb e => h3 (e ▸ hb)
  refine ⟨⟨nv, v6, R, on, o6, hb7, .inl h2, h3, fun b hb => ⟨.inl (h4 b hb).1, Nat.lt_of_lt_of_le (h4 b hb).2 m7.size⟩, fun g hg => ⟨.inl (h5 g hg).1, (h5 g hg).2.1⟩, fun g hg => ⟨.inr (k3 g hg), fun hh => by have := (h4 _ hh).2; have := k3 g hg; omega⟩, ?_, ?_⟩, m7⟩
  · exact h7.nodesMod m7 (fun g hg e => (h5 g hg).2.2.1 e) hRB
  · refine OwnL.erase r1 r2 r3 (fun x r _ hR => hR.mod m7 hRB) hkl ?_
    exact k1.keep (fun g hg => m67.block g (k1.lt g hg) (fun e => by have := k3 g hg; omega))

set_option maxRecDepth 100000 in
set_option maxHeartbeats 4000000 in
theorem refCut (S : Nat → Prop) (B : Nat) (G : PGraph) (id : Int) (w : World) (h : GraphOk 42 S w B G) (hi : G.edges.length ≤ 1024) (hs : (G.edges.map (·.id)).Pairwise (· < ·)) (hn : hasE G id = true) :
    Calls Tryz.prog 56 #[.pointer (some ⟨B, 0, none⟩), .int .i64 id] w fun e w' => (∃ v, e = .returned v) ∧ GraphOk 42 (fun b => S b ∨ w.heap.size ≤ b) w' B ⟨G.nodes, G.edges.filter (fun x => !decide (x.id = id)), G.next⟩ ∧ Mod (fun b => b = B) w w' := by
  obtain ⟨iP, hiP, hzP0, hzP1, hzP2⟩ := info_parts infoEdge
  have HRD := Lib.hid h.rd
  obtain ⟨nv, ev, R, on, oe, h1, h2, h3, h4, h5, h6, h7, h8⟩ := h.parts (by decide) (by decide)
  have H2 := Lib.hid h2; have H3 := Lib.hid h3; have H4 := Lib.hid h4; have H5 := Lib.hid h5; have H6 := Lib.hid h6; have H7 := Lib.hid h7; have H8 := Lib.hid h8
  have HLN := Lib.hid hi; have HS := Lib.hid hs
  have HBW := Lib.hid h1
  have hBW : B < w.heap.size := blk_lt h1
  obtain ⟨k, x, hz, hkl, hx, hid⟩ := idxZ_some (f := fun x : PEdge => x.id) hn
  have HZ := Lib.hid hz; have HX := Lib.hid hx; have HXI := Lib.hid hid
  clear h h1 h2 h3 h4 h5 h6 h7 h8 hi hs hn hz hx hid
  obtain ⟨rows, hr1, hr2, hr3, hos⟩ := H8.out.rowLen
  have HR1 := Lib.hid hr1; have HR2 := Lib.hid hr2; have HR3 := Lib.hid hr3
  have hxl := hos.1
  obtain ⟨g, cap, cur, hnv, hog, hblk, hnc, hcm, hcs, htk⟩ : ∃ g cap, ∃ cur : Array Value, ev = .slice (some ⟨g, 0, none⟩) G.edges.length cap ∧ oe = some g ∧ w.heap[g]? = some (.cells cur 115 (0, 0)) ∧ G.edges.length ≤ cap ∧ cap ≤ maxLen ∧ cur.size = cap * 5 ∧ cur.toList.take (G.edges.length * 5) = rows.flatten := by
    rcases hos.2 with ⟨_, _, h, _⟩ | ⟨g, cap, cur, h1, h2, h3, h4, h5, h6, h7⟩
    · omega
    · exact ⟨g, cap, cur, h1, h2, h3, h4, h5, h6, h7⟩
  subst hnv
  have hgw : g < w.heap.size := blk_lt hblk
  have hrd1 : ∀ w', Grow w w' → Rd w' 5 (.slice (some ⟨g, 0, none⟩) k cap) k (rows.flatten.take (k * 5)) := fun w' hg => ⟨by rw [List.length_take, hxl]; have := Nat.mul_le_mul_right 5 (Nat.le_of_lt hkl); omega, _, _, rfl, .inr ⟨_, rfl, fun j u hu => by
    rw [Addr.add_lit, blk_cell ((hg.heapEq hgw).trans hblk), ← Array.getElem?_toList]
    rw [← htk, List.take_take, List.getElem?_take] at hu
    split at hu
    · simpa using hu
    · cases hu⟩⟩
  have hrd2 : ∀ w' o c, Grow w w' → (cap = k + 1 ∨ o = (k + 1) * 5) → Rd w' 5 (.slice (some ⟨g, o, none⟩) (G.edges.length - (k + 1)) c) (G.edges.length - (k + 1)) (rows.flatten.drop ((k + 1) * 5)) := fun w' o c hg ho => ⟨by rw [List.length_drop, hxl, Nat.sub_mul], _, _, rfl, by
    rcases ho with ho | rfl
    · exact .inl (by omega)
    · exact .inr ⟨_, rfl, fun j u hu => by
        rw [Addr.add_lit, blk_cell ((hg.heapEq hgw).trans hblk), ← Array.getElem?_toList]
        rw [← htk, List.getElem?_drop, List.getElem?_take] at hu
        split at hu
        · exact hu
        · cases hu⟩⟩
  have HRD1 := Lib.hid hrd1; have HRD2 := Lib.hid hrd2
  have HOS0 := Lib.hid (OwnS.lit w.drew #[] 115 5 0 (by unfold maxLen; omega) (by simp))
  have HG1 := Lib.hid (show ∀ o1, Grow w (w.drew.alloc o1) from fun o1 => ((Grow.rfl' w).drewd).allocd o1)
  have HONE := Lib.hid (OwnL.one_flatE HR1.out HR3.out)
  have g0 : w.cell? ⟨B, 1, none⟩ = some (.slice (some ⟨g, 0, none⟩) G.edges.length cap) := by rw [blk_cell HBW.out]; rfl
  have f0 := blk_free HBW.out 1
  have hq1 : (0 : Int) ≤ (k : Int) + 1 := by omega
  have hq2 : (k : Int) ≤ (k : Int) + 1 := by omega
  have hq3 : (k : Int) + 1 ≤ (G.edges.length : Int) := by omega
  have hq4 : ((k : Int) + 1).toNat = k + 1 := by omega
  have hq5 : (G.edges.length : Int) ≤ (cap : Int) := by omega
  have hq6 : (k : Int) ≤ (cap : Int) := by omega
  have hq7 : IntKind.i64.wrap ((k : Int) + 1) = (k : Int) + 1 := by have := HLN.out; rw [IntKind.wrap_i64]; omega
  have HHOG := Lib.hid hog
  clear hr1 hr2 hr3 hos hxl hblk hcs htk hrd1 hrd2 hog
  unfold maxLen at hcm
  clear g0 f0
  go_enter Tryz.func56, Tryz.ntmps56
  go_wp2_with fail
  refine (refEdge S B G id _ HRD.out).mono ?_
  rintro e w2 ⟨rfl, hw2⟩
  rw [hw2, HZ.out]
  clear hw2 w2
  have g0 : w.cell? ⟨B, 1, none⟩ = some (.slice (some ⟨g, 0, none⟩) G.edges.length cap) := (blk_cell HBW.out 1).trans rfl
  have f0 := blk_free HBW.out 1
  by_cases hce : cap = k + 1
  · have hnk : G.edges.length = k + 1 := by omega
    have HRD3 := Lib.hid (show ∀ w', Grow w w' → Rd w' 5 (.slice (some ⟨g, 0, none⟩) 0 0) 0 (rows.flatten.drop ((k + 1) * 5)) from fun w' hg => by
      have := HRD2.out w' 0 0 hg (.inl hce)
      rwa [hnk, Nat.sub_self] at this)
    subst hce
    go_wp2_with fail
    go_region_law (first | (refine step_append_S rfl (.tmp 9) (.tmp 15) 40 rfl 115 iP _ 5 64 Tryz.underlying40 hiP hzP0 hzP1 hzP2 rfl (by decide) (.slice (some ⟨w.heap.size, 0, none⟩) 0 0) 0 [] (some w.heap.size) (by rfl) HOS0.out (.slice (some ⟨g, 0, none⟩) k (k + 1)) (by rfl) k _ (HRD1.out _ (HG1.out _)) (fun u hu => HONE.out u (List.mem_of_mem_take hu)) (by have := HLN.out; unfold maxLen; omega) (by have := HLN.out; omega) ?_; intro v5 w5 o5 k1 k2 k3 k4; rw [Nat.zero_add, List.nil_append] at k1; obtain ⟨oa5, cap5, rfl, -, -⟩ := k1.isSlice; have K1 := Lib.hid k1; have K2 := Lib.hid ((HG1.out _).modd k2 (fun b hb => by cases hb; exact Nat.le_refl _)); have K3 := Lib.hid (ob_case k3 (HG1.out _).size (fun g hg => by cases hg; exact Nat.le_refl _)); have hb5 := (K2.out.heapEq hBW).trans HBW.out; have HB5 := Lib.hid hb5; have hB5 := blk_lt hb5; have q0 : w5.cell? ⟨B, 1, none⟩ = some (.slice (some ⟨g, 0, none⟩) G.edges.length (k + 1)) := (blk_cell hb5 1).trans rfl; have qf := blk_free hb5 1; clear hb5 k1 k2 k3 k4) | (refine step_append_S rfl (.tmp 16) (.tmp 23) 40 rfl 115 iP _ 5 64 Tryz.underlying40 hiP hzP0 hzP1 hzP2 rfl (by decide) (.slice oa5 k cap5) k _ o5 (by rfl) K1.out (.slice (some ⟨g, 0, none⟩) 0 0) (by rfl) 0 _ (HRD3.out _ K2.out) (fun u hu => HONE.out u (List.mem_of_mem_drop hu)) (by have := HLN.out; unfold maxLen; omega) (by have := HLN.out; omega) ?_; intro v6 w6 o6 j1 j2 j3 j4; rw [show k + 0 = G.edges.length - 1 by omega] at j1; obtain ⟨oa6, cap6, rfl, -, -⟩ := j1.isSlice; have J1 := Lib.hid j1; have J2 := Lib.hid (K2.out.modd j2 (fun b hb => K3.out b hb)); have J3 := Lib.hid (ob_case j3 K2.out.size K3.out); have hb6 := (J2.out.heapEq hBW).trans HBW.out; have HB6 := Lib.hid hb6; have hB6 := blk_lt hb6; have r0 : w6.cell? ⟨B, 1, none⟩ = some (.slice (some ⟨g, 0, none⟩) G.edges.length (k + 1)) := (blk_cell hb6 1).trans rfl; have rf6 := blk_free hb6 1; clear hb6 j1 j2 j3 j4))
    all_goals
      go_wp2
      go_end0
      have hcl := rcutE_close H2.out H3.out H4.out H5.out H6.out H7.out HR1.out HR2.out HR3.out hkl J1.out J2.out J3.out ((Mod.rfl' (fun b => b = B) w6).setd (p := ⟨B, 1, none⟩) (.inl rfl) _) (heap_setCell_same w6 B 1 _ _ _ HB6.out) hBW
      try rw [show G.edges.length - 1 = k by omega] at hcl
      refine ⟨⟨_, rfl⟩, ?_, hcl.2⟩
      rw [filter_idx (fun x : PEdge => x.id) HS.out HX.out HXI.out]
      exact hcl.1
  · have hcd : ¬ cap = k + 1 := hce
    go_wp2_with fail
    go_region_law (first | (refine step_append_S rfl (.tmp 9) (.tmp 15) 40 rfl 115 iP _ 5 64 Tryz.underlying40 hiP hzP0 hzP1 hzP2 rfl (by decide) (.slice (some ⟨w.heap.size, 0, none⟩) 0 0) 0 [] (some w.heap.size) (by rfl) HOS0.out (.slice (some ⟨g, 0, none⟩) k cap) (by rfl) k _ (HRD1.out _ (HG1.out _)) (fun u hu => HONE.out u (List.mem_of_mem_take hu)) (by have := HLN.out; unfold maxLen; omega) (by have := HLN.out; omega) ?_; intro v5 w5 o5 k1 k2 k3 k4; rw [Nat.zero_add, List.nil_append] at k1; obtain ⟨oa5, cap5, rfl, -, -⟩ := k1.isSlice; have K1 := Lib.hid k1; have K2 := Lib.hid ((HG1.out _).modd k2 (fun b hb => by cases hb; exact Nat.le_refl _)); have K3 := Lib.hid (ob_case k3 (HG1.out _).size (fun g hg => by cases hg; exact Nat.le_refl _)); have hb5 := (K2.out.heapEq hBW).trans HBW.out; have HB5 := Lib.hid hb5; have hB5 := blk_lt hb5; have q0 : w5.cell? ⟨B, 1, none⟩ = some (.slice (some ⟨g, 0, none⟩) G.edges.length cap) := (blk_cell hb5 1).trans rfl; have qf := blk_free hb5 1; clear hb5 k1 k2 k3 k4) | (refine step_append_S rfl (.tmp 16) (.tmp 23) 40 rfl 115 iP _ 5 64 Tryz.underlying40 hiP hzP0 hzP1 hzP2 rfl (by decide) (.slice oa5 k cap5) k _ o5 (by rfl) K1.out (.slice (some ⟨g, ((k + 1) * 5), none⟩) (G.edges.length - (k + 1)) (cap - (k + 1))) (by rfl) (G.edges.length - (k + 1)) _ (HRD2.out _ _ _ K2.out (.inr rfl)) (fun u hu => HONE.out u (List.mem_of_mem_drop hu)) (by have := HLN.out; unfold maxLen; omega) (by have := HLN.out; omega) ?_; intro v6 w6 o6 j1 j2 j3 j4; rw [show k + (G.edges.length - (k + 1)) = G.edges.length - 1 by omega] at j1; obtain ⟨oa6, cap6, rfl, -, -⟩ := j1.isSlice; have J1 := Lib.hid j1; have J2 := Lib.hid (K2.out.modd j2 (fun b hb => K3.out b hb)); have J3 := Lib.hid (ob_case j3 K2.out.size K3.out); have hb6 := (J2.out.heapEq hBW).trans HBW.out; have HB6 := Lib.hid hb6; have hB6 := blk_lt hb6; have r0 : w6.cell? ⟨B, 1, none⟩ = some (.slice (some ⟨g, 0, none⟩) G.edges.length cap) := (blk_cell hb6 1).trans rfl; have rf6 := blk_free hb6 1; clear hb6 j1 j2 j3 j4))
    all_goals
      go_wp2
      go_end0
      have hcl := rcutE_close H2.out H3.out H4.out H5.out H6.out H7.out HR1.out HR2.out HR3.out hkl J1.out J2.out J3.out ((Mod.rfl' (fun b => b = B) w6).setd (p := ⟨B, 1, none⟩) (.inl rfl) _) (heap_setCell_same w6 B 1 _ _ _ HB6.out) hBW
      try rw [show G.edges.length - 1 = k by omega] at hcl
      refine ⟨⟨_, rfl⟩, ?_, hcl.2⟩
      rw [filter_idx (fun x : PEdge => x.id) HS.out HX.out HXI.out]
      exact hcl.1
end Go.Hg
