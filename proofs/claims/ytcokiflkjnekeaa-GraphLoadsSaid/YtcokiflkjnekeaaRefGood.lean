/- hedgerowref17.Good: whether nodes and edges are a graph's. No condition. Printed by genrefgood.py. -/
import Derived.Test.YtcokiflkjnekeaaRefA
import Derived.Test.YtcokiflkjnekeaaGood
import Derived.Test.YtcokiflkjnekeaaLex
namespace Go.Hg
open Go.RowKit Go.Proofs

set_option maxRecDepth 100000 in
set_option maxHeartbeats 8000000 in
theorem refGood (S : Nat → Prop) (nv ev : Value) (nodes : List PNode) (edges : List PEdge) (next : Int) (w : World) (hn : NodesR S w nv nodes) (he : EdgesR S w ev edges) (hn40 : nodes.length ≤ 1099511627776) (he40 : edges.length ≤ 1099511627776) :
    Calls Try.prog 14 #[nv, ev, .int .i64 next] w fun e w' => e = .returned (.bool (goodG ⟨nodes, edges, next⟩)) ∧ Grow w w' := by
  have HN := Lib.hid hn; have HE0 := Lib.hid he
  obtain ⟨na, nc, rfl, hnl, hnc, hAN⟩ := SlR.open hn
  obtain ⟨ea, ec, rfl, hel, hec, hAE⟩ := SlR.open he
  unfold maxLen at hnc hec
  have HAN := Lib.hid hAN; have HAE := Lib.hid hAE
  clear hn he hAN hAE
  have hsum : IntKind.i64.wrap ((nodes.length : Int) + (edges.length : Int)) = (nodes.length : Int) + (edges.length : Int) := by rw [IntKind.wrap_i64]; omega
  have hd3 : decide ((1024 : Int) < (nodes.length : Int) + (edges.length : Int)) = decide (1024 < nodes.length + edges.length) := by
    by_cases h : 1024 < nodes.length + edges.length <;> simp [h] <;> omega
  clear hn40 he40
  cases q1 : decide (next < 1)
  rotate_left 1
  · have HX := Lib.hid (show goodG ⟨nodes, edges, next⟩ = false by unfold goodG sizeOkG; rw [q1]; rfl)
    go_enter Try.func14, Try.ntmps14
    go_wp2
    go_ret
    exact ⟨by rw [HX.out]; rfl, Grow.rfl' w⟩
  cases q2 : decide (4611686018427387904 < next)
  rotate_left 1
  · have HX := Lib.hid (show goodG ⟨nodes, edges, next⟩ = false by unfold goodG sizeOkG; rw [q1, q2]; rfl)
    go_enter Try.func14, Try.ntmps14
    go_wp2
    go_ret
    exact ⟨by rw [HX.out]; rfl, Grow.rfl' w⟩
  cases q3 : decide (1024 < nodes.length + edges.length)
  rotate_left 1
  · have HX := Lib.hid (show goodG ⟨nodes, edges, next⟩ = false by unfold goodG sizeOkG; rw [q1, q2, q3]; rfl)
    rw [q3] at hd3
    go_enter Try.func14, Try.ntmps14
    go_wp2
    go_ret
    exact ⟨by rw [HX.out]; rfl, Grow.rfl' w⟩
  rw [q3] at hd3
  have HTOP := Lib.hid (show goodG ⟨nodes, edges, next⟩ = (goodNs next 0 nodes && goodEs ⟨nodes, edges, next⟩ 0 edges) by unfold goodG sizeOkG; rw [q1, q2, q3]; rfl)
  have HG0 := Lib.hid (show Grow w (w.alloc (.cells #[.slice na nodes.length nc, .slice ea edges.length ec, .int .i64 0] 88)) from (Grow.rfl' w).allocd _)
  have HLG := Lib.hid (show GraphRd 88 S (w.alloc (.cells #[.slice na nodes.length nc, .slice ea edges.length ec, .int .i64 0] 88)) w.heap.size ⟨nodes, edges, 0⟩ from
    ⟨_, _, heap_alloc_new w _, HN.out.grow HG0.out, HE0.out.grow HG0.out⟩)
  go_enter Try.func14, Try.ntmps14
  go_wp2
  clear q1 q2 q3 hd3 hsum
  go_loopg [8] nodes.length (fun g i wr => ∃ (k : Nat) (last : Int), k ≤ nodes.length ∧ g = nodes.length - k ∧ i = .int .i64 k ∧ goodNs next 0 nodes = goodNs next last (nodes.drop k) ∧ ((k = 0 ∧ last = 0) ∨ ∃ q, 0 < k ∧ nodes[k - 1]? = some q ∧ last = q.id ∧ 1 ≤ q.id) ∧ Grow (w.alloc (.cells #[.slice na nodes.length nc, .slice ea edges.length ec, .int .i64 0] 88)) wr)
  case atStart => exact ⟨0, 0, by omega, by omega, rfl, rfl, .inl ⟨rfl, rfl⟩, Grow.rfl' _⟩
  case round =>
    obtain ⟨k, last, hk, rfl, rfl, hgd, hlast, hgr⟩ := hrel
    have HGD := Lib.hid hgd; have HWR := Lib.hid hgr
    have hgr0 : Grow w wr := HG0.out.step hgr
    by_cases hkl : k < nodes.length
    · obtain ⟨ba, oa, ra, rfl, hSa, hba, hRa, hca⟩ := HAN.out k nodes[k] (List.getElem?_eq_getElem hkl)
      obtain ⟨pva, hba', a0, a1, a2, hpa⟩ := hRa.at hba hgr0 hca
      have HPA := Lib.hid hpa
      obtain ⟨pa, pc, rfl⟩ := hpa.isSlice
      have HD := Lib.hid (show nodes.drop k = nodes[k] :: nodes.drop (k + 1) from List.drop_eq_getElem_cons hkl)
      have HE := Lib.hid (show nodes[k]? = some nodes[k] from List.getElem?_eq_getElem hkl)
      clear hca hRa hSa hba hpa hgd
      generalize nodes[k] = x at *
      have HUN := Lib.hid (show goodNs next 0 nodes = (!decide (x.id ≤ last) && (!decide (next ≤ x.id) && (decide (NameOk x.typ) && (propsB x.props && goodNs next x.id (nodes.drop (k + 1)))))) by rw [HGD.out, HD.out]; rfl)
      rcases hlast with ⟨hk0, hla⟩ | ⟨q, hk0, hq, hla, hq1⟩
      · have HLAST := Lib.hid hla
        have HL0 := Lib.hid (show 0 ≤ last by omega)
        have hd0 : decide ((0 : Int) < (k : Int)) = false := by simp; omega
        have hk00 : ¬ 0 < k := by omega
        clear hla hgr hgr0 hk0
        have HLE := Lib.hid (show decide (x.id < 1) = true → decide (x.id ≤ last) = true from fun h => by have h1 := of_decide_eq_true h; have h2 := HL0.out; exact decide_eq_true (by omega))
        have HPOS := Lib.hid (show decide (x.id < 1) = false → 1 ≤ x.id from fun h => by have h1 := of_decide_eq_false h; omega)
        have HBADc1 := Lib.hid (show decide (x.id < 1) = true → goodG ⟨nodes, edges, next⟩ = false from fun h => by rw [HTOP.out, HUN.out, HLE.out h]; simp)
        have HBADc2 := Lib.hid (show decide (next ≤ x.id) = true → goodG ⟨nodes, edges, next⟩ = false from fun h => by rw [HTOP.out, HUN.out, h]; simp)
        have HBADc4 := Lib.hid (show decide (NameOk x.typ) = false → goodG ⟨nodes, edges, next⟩ = false from fun h => by rw [HTOP.out, HUN.out, h]; simp)
        have HBADc5 := Lib.hid (show propsB x.props = false → goodG ⟨nodes, edges, next⟩ = false from fun h => by rw [HTOP.out, HUN.out, h]; simp)
        have HGOOD := Lib.hid (show decide (x.id < 1) = false → decide (next ≤ x.id) = false → decide (NameOk x.typ) = true → propsB x.props = true → goodNs next 0 nodes = goodNs next x.id (nodes.drop (k + 1)) from fun c1 c2 c4 c5 => by
          have h1 : decide (x.id ≤ last) = false := by have := of_decide_eq_false c1; rw [HLAST.out]; exact decide_eq_false (by omega)
          rw [HUN.out, h1, c2, c4, c5]; rfl)
        cases c1 : decide (x.id < 1)
        rotate_left 1
        · have HX := Lib.hid (show goodG ⟨nodes, edges, next⟩ = false from HBADc1.out c1)
          go_wp2_with fail
          refine wp_region_grow (by kernel_rfl) (lexB_of _ _ (by kernel_rfl)) ?_
          repeat (go_big_quiet_step (first | exact calls_gr ((refName x.typ _).mono fun e w' ⟨he, hw⟩ => ⟨he, by subst hw; exact Grow.rfl' _⟩) | exact calls_gr (refPropsOk S _ x.props _ (HPA.out.grow (Gr.h _)))))
          refine wpQuiet_nil ?_
          intro w2 hw2
          go_wp2
          go_ret
          exact ⟨by rw [HX.out]; rfl, (HG0.out.step HWR.out).step hw2⟩
        cases c2 : decide (next ≤ x.id)
        rotate_left 1
        · have HX := Lib.hid (show goodG ⟨nodes, edges, next⟩ = false from HBADc2.out c2)
          go_wp2_with fail
          refine wp_region_grow (by kernel_rfl) (lexB_of _ _ (by kernel_rfl)) ?_
          repeat (go_big_quiet_step (first | exact calls_gr ((refName x.typ _).mono fun e w' ⟨he, hw⟩ => ⟨he, by subst hw; exact Grow.rfl' _⟩) | exact calls_gr (refPropsOk S _ x.props _ (HPA.out.grow (Gr.h _)))))
          refine wpQuiet_nil ?_
          intro w2 hw2
          go_wp2
          go_ret
          exact ⟨by rw [HX.out]; rfl, (HG0.out.step HWR.out).step hw2⟩
        cases c4 : decide (NameOk x.typ)
        · have HX := Lib.hid (show goodG ⟨nodes, edges, next⟩ = false from HBADc4.out c4)
          go_wp2_with fail
          refine wp_region_grow (by kernel_rfl) (lexB_of _ _ (by kernel_rfl)) ?_
          repeat (go_big_quiet_step (first | exact calls_gr ((refName x.typ _).mono fun e w' ⟨he, hw⟩ => ⟨he, by subst hw; exact Grow.rfl' _⟩) | exact calls_gr (refPropsOk S _ x.props _ (HPA.out.grow (Gr.h _)))))
          refine wpQuiet_nil ?_
          intro w2 hw2
          go_wp2
          go_ret
          exact ⟨by rw [HX.out]; rfl, (HG0.out.step HWR.out).step hw2⟩
        cases c5 : propsB x.props
        · have HX := Lib.hid (show goodG ⟨nodes, edges, next⟩ = false from HBADc5.out c5)
          go_wp2_with fail
          refine wp_region_grow (by kernel_rfl) (lexB_of _ _ (by kernel_rfl)) ?_
          repeat (go_big_quiet_step (first | exact calls_gr ((refName x.typ _).mono fun e w' ⟨he, hw⟩ => ⟨he, by subst hw; exact Grow.rfl' _⟩) | exact calls_gr (refPropsOk S _ x.props _ (HPA.out.grow (Gr.h _)))))
          refine wpQuiet_nil ?_
          intro w2 hw2
          go_wp2
          go_ret
          exact ⟨by rw [HX.out]; rfl, (HG0.out.step HWR.out).step hw2⟩
        have HNX := Lib.hid (HGOOD.out c1 c2 c4 c5)
        go_wp2_with fail
        refine wp_region_grow (by kernel_rfl) (lexB_of _ _ (by kernel_rfl)) ?_
        repeat (go_big_quiet_step (first | exact calls_gr ((refName x.typ _).mono fun e w' ⟨he, hw⟩ => ⟨he, by subst hw; exact Grow.rfl' _⟩) | exact calls_gr (refPropsOk S _ x.props _ (HPA.out.grow (Gr.h _)))))
        refine wpQuiet_nil ?_
        intro w2 hw2
        go_wp2_with fail
        go_roundg (nodes.length - (k + 1))
        case measure => omega
        case rel => exact ⟨k + 1, x.id, by omega, rfl, by go_num, HNX.out, .inr ⟨x, by omega, by rw [Nat.add_sub_cancel]; exact HE.out, rfl, HPOS.out c1⟩, HWR.out.step hw2⟩
      · obtain ⟨bb, ob, rb, hob, hSb, hbb, hRb, hcb⟩ := HAN.out (k - 1) q hq
        cases hob
        obtain ⟨_, -, b0, -, -, -⟩ := hRb.at hbb hgr0 hcb
        have HLAST := Lib.hid hla
        have HL0 := Lib.hid (show 0 ≤ last by omega)
        have hd0 : decide ((0 : Int) < (k : Int)) = true := by simp; omega
        have hk1 : 1 ≤ k := hk0
        clear hla hgr hgr0 hcb hRb hSb hbb hq hq1
        have HLE := Lib.hid (show decide (x.id < 1) = true → decide (x.id ≤ last) = true from fun h => by have h1 := of_decide_eq_true h; have h2 := HL0.out; exact decide_eq_true (by omega))
        have HPOS := Lib.hid (show decide (x.id < 1) = false → 1 ≤ x.id from fun h => by have h1 := of_decide_eq_false h; omega)
        have HBADc1 := Lib.hid (show decide (x.id < 1) = true → goodG ⟨nodes, edges, next⟩ = false from fun h => by rw [HTOP.out, HUN.out, HLE.out h]; simp)
        have HBADc2 := Lib.hid (show decide (next ≤ x.id) = true → goodG ⟨nodes, edges, next⟩ = false from fun h => by rw [HTOP.out, HUN.out, h]; simp)
        have HBADc3 := Lib.hid (show decide (x.id ≤ q.id) = true → goodG ⟨nodes, edges, next⟩ = false from fun h => by rw [HTOP.out, HUN.out, HLAST.out, h]; simp)
        have HBADc4 := Lib.hid (show decide (NameOk x.typ) = false → goodG ⟨nodes, edges, next⟩ = false from fun h => by rw [HTOP.out, HUN.out, h]; simp)
        have HBADc5 := Lib.hid (show propsB x.props = false → goodG ⟨nodes, edges, next⟩ = false from fun h => by rw [HTOP.out, HUN.out, h]; simp)
        have HGOOD := Lib.hid (show decide (x.id < 1) = false → decide (next ≤ x.id) = false → decide (x.id ≤ q.id) = false → decide (NameOk x.typ) = true → propsB x.props = true → goodNs next 0 nodes = goodNs next x.id (nodes.drop (k + 1)) from fun c1 c2 c3 c4 c5 => by
          have h1 : decide (x.id ≤ last) = false := by rw [HLAST.out]; exact c3
          rw [HUN.out, h1, c2, c4, c5]; rfl)
        cases c1 : decide (x.id < 1)
        rotate_left 1
        · have HX := Lib.hid (show goodG ⟨nodes, edges, next⟩ = false from HBADc1.out c1)
          go_wp2_with fail
          refine wp_region_grow (by kernel_rfl) (lexB_of _ _ (by kernel_rfl)) ?_
          repeat (go_big_quiet_step (first | exact calls_gr ((refName x.typ _).mono fun e w' ⟨he, hw⟩ => ⟨he, by subst hw; exact Grow.rfl' _⟩) | exact calls_gr (refPropsOk S _ x.props _ (HPA.out.grow (Gr.h _)))))
          refine wpQuiet_nil ?_
          intro w2 hw2
          go_wp2
          go_ret
          exact ⟨by rw [HX.out]; rfl, (HG0.out.step HWR.out).step hw2⟩
        cases c2 : decide (next ≤ x.id)
        rotate_left 1
        · have HX := Lib.hid (show goodG ⟨nodes, edges, next⟩ = false from HBADc2.out c2)
          go_wp2_with fail
          refine wp_region_grow (by kernel_rfl) (lexB_of _ _ (by kernel_rfl)) ?_
          repeat (go_big_quiet_step (first | exact calls_gr ((refName x.typ _).mono fun e w' ⟨he, hw⟩ => ⟨he, by subst hw; exact Grow.rfl' _⟩) | exact calls_gr (refPropsOk S _ x.props _ (HPA.out.grow (Gr.h _)))))
          refine wpQuiet_nil ?_
          intro w2 hw2
          go_wp2
          go_ret
          exact ⟨by rw [HX.out]; rfl, (HG0.out.step HWR.out).step hw2⟩
        cases c3 : decide (x.id ≤ q.id)
        rotate_left 1
        · have HX := Lib.hid (show goodG ⟨nodes, edges, next⟩ = false from HBADc3.out c3)
          go_wp2_with fail
          refine wp_region_grow (by kernel_rfl) (lexB_of _ _ (by kernel_rfl)) ?_
          repeat (go_big_quiet_step (first | exact calls_gr ((refName x.typ _).mono fun e w' ⟨he, hw⟩ => ⟨he, by subst hw; exact Grow.rfl' _⟩) | exact calls_gr (refPropsOk S _ x.props _ (HPA.out.grow (Gr.h _)))))
          refine wpQuiet_nil ?_
          intro w2 hw2
          go_wp2
          go_ret
          exact ⟨by rw [HX.out]; rfl, (HG0.out.step HWR.out).step hw2⟩
        cases c4 : decide (NameOk x.typ)
        · have HX := Lib.hid (show goodG ⟨nodes, edges, next⟩ = false from HBADc4.out c4)
          go_wp2_with fail
          refine wp_region_grow (by kernel_rfl) (lexB_of _ _ (by kernel_rfl)) ?_
          repeat (go_big_quiet_step (first | exact calls_gr ((refName x.typ _).mono fun e w' ⟨he, hw⟩ => ⟨he, by subst hw; exact Grow.rfl' _⟩) | exact calls_gr (refPropsOk S _ x.props _ (HPA.out.grow (Gr.h _)))))
          refine wpQuiet_nil ?_
          intro w2 hw2
          go_wp2
          go_ret
          exact ⟨by rw [HX.out]; rfl, (HG0.out.step HWR.out).step hw2⟩
        cases c5 : propsB x.props
        · have HX := Lib.hid (show goodG ⟨nodes, edges, next⟩ = false from HBADc5.out c5)
          go_wp2_with fail
          refine wp_region_grow (by kernel_rfl) (lexB_of _ _ (by kernel_rfl)) ?_
          repeat (go_big_quiet_step (first | exact calls_gr ((refName x.typ _).mono fun e w' ⟨he, hw⟩ => ⟨he, by subst hw; exact Grow.rfl' _⟩) | exact calls_gr (refPropsOk S _ x.props _ (HPA.out.grow (Gr.h _)))))
          refine wpQuiet_nil ?_
          intro w2 hw2
          go_wp2
          go_ret
          exact ⟨by rw [HX.out]; rfl, (HG0.out.step HWR.out).step hw2⟩
        have HNX := Lib.hid (HGOOD.out c1 c2 c3 c4 c5)
        go_wp2_with fail
        refine wp_region_grow (by kernel_rfl) (lexB_of _ _ (by kernel_rfl)) ?_
        repeat (go_big_quiet_step (first | exact calls_gr ((refName x.typ _).mono fun e w' ⟨he, hw⟩ => ⟨he, by subst hw; exact Grow.rfl' _⟩) | exact calls_gr (refPropsOk S _ x.props _ (HPA.out.grow (Gr.h _)))))
        refine wpQuiet_nil ?_
        intro w2 hw2
        go_wp2_with fail
        go_roundg (nodes.length - (k + 1))
        case measure => omega
        case rel => exact ⟨k + 1, x.id, by omega, rfl, by go_num, HNX.out, .inr ⟨x, by omega, by rw [Nat.add_sub_cancel]; exact HE.out, rfl, HPOS.out c1⟩, HWR.out.step hw2⟩
    · have hkn : k = nodes.length := by omega
      subst hkn
      have HNT := Lib.hid (show goodNs next 0 nodes = true by rw [HGD.out, List.drop_length]; rfl)
      have HTOPE := Lib.hid (show goodG ⟨nodes, edges, next⟩ = goodEs ⟨nodes, edges, next⟩ 0 edges by rw [HTOP.out, HNT.out]; rfl)
      have HWN := Lib.hid hgr
      clear hgd hgr hgr0 hlast HGD HWR
      go_wp2
      generalize wr = wm at *
      go_loopg [9] edges.length (fun g i wr => ∃ (k : Nat) (last : Int), k ≤ edges.length ∧ g = edges.length - k ∧ i = .int .i64 k ∧ goodEs ⟨nodes, edges, next⟩ 0 edges = goodEs ⟨nodes, edges, next⟩ last (edges.drop k) ∧ ((k = 0 ∧ last = 0) ∨ ∃ q, 0 < k ∧ edges[k - 1]? = some q ∧ last = q.id ∧ 1 ≤ q.id) ∧ Grow (w.alloc (.cells #[.slice na nodes.length nc, .slice ea edges.length ec, .int .i64 0] 88)) wr)
      case atStart => exact ⟨0, 0, by omega, by omega, rfl, rfl, .inl ⟨rfl, rfl⟩, HWN.out⟩
      case round =>
        obtain ⟨k, last, hk, rfl, rfl, hgd, hlast, hgr⟩ := hrel
        have HGD := Lib.hid hgd; have HWR := Lib.hid hgr
        have hgr0 : Grow w wr := HG0.out.step hgr
        by_cases hkl : k < edges.length
        · obtain ⟨ba, oa, ra, rfl, hSa, hba, hRa, hca⟩ := HAE.out k edges[k] (List.getElem?_eq_getElem hkl)
          obtain ⟨pva, hba', a0, a1, a2, a3, a4, hpa⟩ := hRa.at hba hgr0 hca
          have HPA := Lib.hid hpa
          obtain ⟨pa, pc, rfl⟩ := hpa.isSlice
          have HD := Lib.hid (show edges.drop k = edges[k] :: edges.drop (k + 1) from List.drop_eq_getElem_cons hkl)
          have HE := Lib.hid (show edges[k]? = some edges[k] from List.getElem?_eq_getElem hkl)
          clear hca hRa hSa hba hpa hgd
          generalize edges[k] = x at *
          have HUN := Lib.hid (show goodEs ⟨nodes, edges, next⟩ 0 edges = (!decide (x.id ≤ last) && (!decide (next ≤ x.id) && (!hasN ⟨nodes, edges, next⟩ x.id && (hasN ⟨nodes, edges, next⟩ x.from_ && (hasN ⟨nodes, edges, next⟩ x.to_ && (decide (NameOk x.typ) && (propsB x.props && goodEs ⟨nodes, edges, next⟩ x.id (edges.drop (k + 1))))))))) by rw [HGD.out, HD.out]; rfl)
          rcases hlast with ⟨hk0, hla⟩ | ⟨q, hk0, hq, hla, hq1⟩
          · have HLAST := Lib.hid hla
            have HL0 := Lib.hid (show 0 ≤ last by omega)
            have hd0 : decide ((0 : Int) < (k : Int)) = false := by simp; omega
            have hk00 : ¬ 0 < k := by omega
            clear hla hgr hgr0 hk0
            have HLE := Lib.hid (show decide (x.id < 1) = true → decide (x.id ≤ last) = true from fun h => by have h1 := of_decide_eq_true h; have h2 := HL0.out; exact decide_eq_true (by omega))
            have HPOS := Lib.hid (show decide (x.id < 1) = false → 1 ≤ x.id from fun h => by have h1 := of_decide_eq_false h; omega)
            have HBADc1 := Lib.hid (show decide (x.id < 1) = true → goodG ⟨nodes, edges, next⟩ = false from fun h => by rw [HTOPE.out, HUN.out, HLE.out h]; simp)
            have HBADc2 := Lib.hid (show decide (next ≤ x.id) = true → goodG ⟨nodes, edges, next⟩ = false from fun h => by rw [HTOPE.out, HUN.out, h]; simp)
            have HBADc4 := Lib.hid (show decide (NameOk x.typ) = false → goodG ⟨nodes, edges, next⟩ = false from fun h => by rw [HTOPE.out, HUN.out, h]; simp)
            have HBADc5 := Lib.hid (show propsB x.props = false → goodG ⟨nodes, edges, next⟩ = false from fun h => by rw [HTOPE.out, HUN.out, h]; simp)
            have HBADc6 := Lib.hid (show decide (0 ≤ idxZ (fun x : PNode => x.id) nodes x.id) = true → goodG ⟨nodes, edges, next⟩ = false from fun h => by rw [HTOPE.out, HUN.out, show hasN ⟨nodes, edges, next⟩ x.id = true from (idxZ_at (fun x : PNode => x.id) nodes x.id).pos.symm.trans h]; simp)
            have HBADc7 := Lib.hid (show decide (idxZ (fun x : PNode => x.id) nodes x.from_ < 0) = true → goodG ⟨nodes, edges, next⟩ = false from fun h => by rw [HTOPE.out, HUN.out, show hasN ⟨nodes, edges, next⟩ x.from_ = false by have h2 := (idxZ_at (fun x : PNode => x.id) nodes x.from_).neg; rw [h] at h2; simpa [hasN] using h2.symm]; simp)
            have HBADc8 := Lib.hid (show decide (idxZ (fun x : PNode => x.id) nodes x.to_ < 0) = true → goodG ⟨nodes, edges, next⟩ = false from fun h => by rw [HTOPE.out, HUN.out, show hasN ⟨nodes, edges, next⟩ x.to_ = false by have h2 := (idxZ_at (fun x : PNode => x.id) nodes x.to_).neg; rw [h] at h2; simpa [hasN] using h2.symm]; simp)
            have HGOOD := Lib.hid (show decide (x.id < 1) = false → decide (next ≤ x.id) = false → decide (NameOk x.typ) = true → propsB x.props = true → decide (0 ≤ idxZ (fun x : PNode => x.id) nodes x.id) = false → decide (idxZ (fun x : PNode => x.id) nodes x.from_ < 0) = false → decide (idxZ (fun x : PNode => x.id) nodes x.to_ < 0) = false → goodEs ⟨nodes, edges, next⟩ 0 edges = goodEs ⟨nodes, edges, next⟩ x.id (edges.drop (k + 1)) from fun c1 c2 c4 c5 c6 c7 c8 => by
              have h1 : decide (x.id ≤ last) = false := by have := of_decide_eq_false c1; rw [HLAST.out]; exact decide_eq_false (by omega)
              have h6 : hasN ⟨nodes, edges, next⟩ x.id = false := (idxZ_at (fun x : PNode => x.id) nodes x.id).pos.symm.trans c6
              have h7 : hasN ⟨nodes, edges, next⟩ x.from_ = true := by have h2 := (idxZ_at (fun x : PNode => x.id) nodes x.from_).neg; rw [c7] at h2; simpa [hasN] using h2.symm
              have h8 : hasN ⟨nodes, edges, next⟩ x.to_ = true := by have h2 := (idxZ_at (fun x : PNode => x.id) nodes x.to_).neg; rw [c8] at h2; simpa [hasN] using h2.symm
              rw [HUN.out, h1, c2, h6, h7, h8, c4, c5]; rfl)
            cases c1 : decide (x.id < 1)
            rotate_left 1
            · have HX := Lib.hid (show goodG ⟨nodes, edges, next⟩ = false from HBADc1.out c1)
              go_wp2_with fail
              simp only [List.append_eq, List.cons_append, List.nil_append]
              refine wp_region_grow (by kernel_rfl) (lexB_of _ _ (by kernel_rfl)) ?_
              repeat (go_big_quiet_step (first | exact calls_gr ((refName x.typ _).mono fun e w' ⟨he, hw⟩ => ⟨he, by subst hw; exact Grow.rfl' _⟩) | exact calls_gr (refPropsOk S _ x.props _ (HPA.out.grow (Gr.h _))) | exact calls_gr ((refNode S w.heap.size ⟨nodes, edges, 0⟩ _ _ (HLG.out.grow (HWR.out.step (Gr.h _)))).mono fun e w' ⟨he, hw⟩ => ⟨he, by subst hw; exact Grow.rfl' _⟩)))
              refine wpQuiet_nil ?_
              intro w2 hw2
              go_wp2
              go_ret
              exact ⟨by rw [HX.out]; rfl, (HG0.out.step HWR.out).step hw2⟩
            cases c2 : decide (next ≤ x.id)
            rotate_left 1
            · have HX := Lib.hid (show goodG ⟨nodes, edges, next⟩ = false from HBADc2.out c2)
              go_wp2_with fail
              simp only [List.append_eq, List.cons_append, List.nil_append]
              refine wp_region_grow (by kernel_rfl) (lexB_of _ _ (by kernel_rfl)) ?_
              repeat (go_big_quiet_step (first | exact calls_gr ((refName x.typ _).mono fun e w' ⟨he, hw⟩ => ⟨he, by subst hw; exact Grow.rfl' _⟩) | exact calls_gr (refPropsOk S _ x.props _ (HPA.out.grow (Gr.h _))) | exact calls_gr ((refNode S w.heap.size ⟨nodes, edges, 0⟩ _ _ (HLG.out.grow (HWR.out.step (Gr.h _)))).mono fun e w' ⟨he, hw⟩ => ⟨he, by subst hw; exact Grow.rfl' _⟩)))
              refine wpQuiet_nil ?_
              intro w2 hw2
              go_wp2
              go_ret
              exact ⟨by rw [HX.out]; rfl, (HG0.out.step HWR.out).step hw2⟩
            cases c4 : decide (NameOk x.typ)
            · have HX := Lib.hid (show goodG ⟨nodes, edges, next⟩ = false from HBADc4.out c4)
              go_wp2_with fail
              simp only [List.append_eq, List.cons_append, List.nil_append]
              refine wp_region_grow (by kernel_rfl) (lexB_of _ _ (by kernel_rfl)) ?_
              repeat (go_big_quiet_step (first | exact calls_gr ((refName x.typ _).mono fun e w' ⟨he, hw⟩ => ⟨he, by subst hw; exact Grow.rfl' _⟩) | exact calls_gr (refPropsOk S _ x.props _ (HPA.out.grow (Gr.h _))) | exact calls_gr ((refNode S w.heap.size ⟨nodes, edges, 0⟩ _ _ (HLG.out.grow (HWR.out.step (Gr.h _)))).mono fun e w' ⟨he, hw⟩ => ⟨he, by subst hw; exact Grow.rfl' _⟩)))
              refine wpQuiet_nil ?_
              intro w2 hw2
              go_wp2
              go_ret
              exact ⟨by rw [HX.out]; rfl, (HG0.out.step HWR.out).step hw2⟩
            cases c5 : propsB x.props
            · have HX := Lib.hid (show goodG ⟨nodes, edges, next⟩ = false from HBADc5.out c5)
              go_wp2_with fail
              simp only [List.append_eq, List.cons_append, List.nil_append]
              refine wp_region_grow (by kernel_rfl) (lexB_of _ _ (by kernel_rfl)) ?_
              repeat (go_big_quiet_step (first | exact calls_gr ((refName x.typ _).mono fun e w' ⟨he, hw⟩ => ⟨he, by subst hw; exact Grow.rfl' _⟩) | exact calls_gr (refPropsOk S _ x.props _ (HPA.out.grow (Gr.h _))) | exact calls_gr ((refNode S w.heap.size ⟨nodes, edges, 0⟩ _ _ (HLG.out.grow (HWR.out.step (Gr.h _)))).mono fun e w' ⟨he, hw⟩ => ⟨he, by subst hw; exact Grow.rfl' _⟩)))
              refine wpQuiet_nil ?_
              intro w2 hw2
              go_wp2
              go_ret
              exact ⟨by rw [HX.out]; rfl, (HG0.out.step HWR.out).step hw2⟩
            cases c6 : decide (0 ≤ idxZ (fun x : PNode => x.id) nodes x.id)
            rotate_left 1
            · have HX := Lib.hid (show goodG ⟨nodes, edges, next⟩ = false from HBADc6.out c6)
              go_wp2_with fail
              simp only [List.append_eq, List.cons_append, List.nil_append]
              refine wp_region_grow (by kernel_rfl) (lexB_of _ _ (by kernel_rfl)) ?_
              repeat (go_big_quiet_step (first | exact calls_gr ((refName x.typ _).mono fun e w' ⟨he, hw⟩ => ⟨he, by subst hw; exact Grow.rfl' _⟩) | exact calls_gr (refPropsOk S _ x.props _ (HPA.out.grow (Gr.h _))) | exact calls_gr ((refNode S w.heap.size ⟨nodes, edges, 0⟩ _ _ (HLG.out.grow (HWR.out.step (Gr.h _)))).mono fun e w' ⟨he, hw⟩ => ⟨he, by subst hw; exact Grow.rfl' _⟩)))
              refine wpQuiet_nil ?_
              intro w2 hw2
              go_wp2
              go_ret
              exact ⟨by rw [HX.out]; rfl, (HG0.out.step HWR.out).step hw2⟩
            cases c7 : decide (idxZ (fun x : PNode => x.id) nodes x.from_ < 0)
            rotate_left 1
            · have HX := Lib.hid (show goodG ⟨nodes, edges, next⟩ = false from HBADc7.out c7)
              go_wp2_with fail
              simp only [List.append_eq, List.cons_append, List.nil_append]
              refine wp_region_grow (by kernel_rfl) (lexB_of _ _ (by kernel_rfl)) ?_
              repeat (go_big_quiet_step (first | exact calls_gr ((refName x.typ _).mono fun e w' ⟨he, hw⟩ => ⟨he, by subst hw; exact Grow.rfl' _⟩) | exact calls_gr (refPropsOk S _ x.props _ (HPA.out.grow (Gr.h _))) | exact calls_gr ((refNode S w.heap.size ⟨nodes, edges, 0⟩ _ _ (HLG.out.grow (HWR.out.step (Gr.h _)))).mono fun e w' ⟨he, hw⟩ => ⟨he, by subst hw; exact Grow.rfl' _⟩)))
              refine wpQuiet_nil ?_
              intro w2 hw2
              go_wp2
              go_ret
              exact ⟨by rw [HX.out]; rfl, (HG0.out.step HWR.out).step hw2⟩
            cases c8 : decide (idxZ (fun x : PNode => x.id) nodes x.to_ < 0)
            rotate_left 1
            · have HX := Lib.hid (show goodG ⟨nodes, edges, next⟩ = false from HBADc8.out c8)
              go_wp2_with fail
              simp only [List.append_eq, List.cons_append, List.nil_append]
              refine wp_region_grow (by kernel_rfl) (lexB_of _ _ (by kernel_rfl)) ?_
              repeat (go_big_quiet_step (first | exact calls_gr ((refName x.typ _).mono fun e w' ⟨he, hw⟩ => ⟨he, by subst hw; exact Grow.rfl' _⟩) | exact calls_gr (refPropsOk S _ x.props _ (HPA.out.grow (Gr.h _))) | exact calls_gr ((refNode S w.heap.size ⟨nodes, edges, 0⟩ _ _ (HLG.out.grow (HWR.out.step (Gr.h _)))).mono fun e w' ⟨he, hw⟩ => ⟨he, by subst hw; exact Grow.rfl' _⟩)))
              refine wpQuiet_nil ?_
              intro w2 hw2
              go_wp2
              go_ret
              exact ⟨by rw [HX.out]; rfl, (HG0.out.step HWR.out).step hw2⟩
            have HNX := Lib.hid (HGOOD.out c1 c2 c4 c5 c6 c7 c8)
            go_wp2_with fail
            simp only [List.append_eq, List.cons_append, List.nil_append]
            refine wp_region_grow (by kernel_rfl) (lexB_of _ _ (by kernel_rfl)) ?_
            repeat (go_big_quiet_step (first | exact calls_gr ((refName x.typ _).mono fun e w' ⟨he, hw⟩ => ⟨he, by subst hw; exact Grow.rfl' _⟩) | exact calls_gr (refPropsOk S _ x.props _ (HPA.out.grow (Gr.h _))) | exact calls_gr ((refNode S w.heap.size ⟨nodes, edges, 0⟩ _ _ (HLG.out.grow (HWR.out.step (Gr.h _)))).mono fun e w' ⟨he, hw⟩ => ⟨he, by subst hw; exact Grow.rfl' _⟩)))
            refine wpQuiet_nil ?_
            intro w2 hw2
            go_wp2_with fail
            go_roundg (edges.length - (k + 1))
            case measure => omega
            case rel => exact ⟨k + 1, x.id, by omega, rfl, by go_num, HNX.out, .inr ⟨x, by omega, by rw [Nat.add_sub_cancel]; exact HE.out, rfl, HPOS.out c1⟩, HWR.out.step hw2⟩
          · obtain ⟨bb, ob, rb, hob, hSb, hbb, hRb, hcb⟩ := HAE.out (k - 1) q hq
            cases hob
            obtain ⟨_, -, b0, -, -, -, -, -⟩ := hRb.at hbb hgr0 hcb
            have HLAST := Lib.hid hla
            have HL0 := Lib.hid (show 0 ≤ last by omega)
            have hd0 : decide ((0 : Int) < (k : Int)) = true := by simp; omega
            have hk1 : 1 ≤ k := hk0
            clear hla hgr hgr0 hcb hRb hSb hbb hq hq1
            have HLE := Lib.hid (show decide (x.id < 1) = true → decide (x.id ≤ last) = true from fun h => by have h1 := of_decide_eq_true h; have h2 := HL0.out; exact decide_eq_true (by omega))
            have HPOS := Lib.hid (show decide (x.id < 1) = false → 1 ≤ x.id from fun h => by have h1 := of_decide_eq_false h; omega)
            have HBADc1 := Lib.hid (show decide (x.id < 1) = true → goodG ⟨nodes, edges, next⟩ = false from fun h => by rw [HTOPE.out, HUN.out, HLE.out h]; simp)
            have HBADc2 := Lib.hid (show decide (next ≤ x.id) = true → goodG ⟨nodes, edges, next⟩ = false from fun h => by rw [HTOPE.out, HUN.out, h]; simp)
            have HBADc3 := Lib.hid (show decide (x.id ≤ q.id) = true → goodG ⟨nodes, edges, next⟩ = false from fun h => by rw [HTOPE.out, HUN.out, HLAST.out, h]; simp)
            have HBADc4 := Lib.hid (show decide (NameOk x.typ) = false → goodG ⟨nodes, edges, next⟩ = false from fun h => by rw [HTOPE.out, HUN.out, h]; simp)
            have HBADc5 := Lib.hid (show propsB x.props = false → goodG ⟨nodes, edges, next⟩ = false from fun h => by rw [HTOPE.out, HUN.out, h]; simp)
            have HBADc6 := Lib.hid (show decide (0 ≤ idxZ (fun x : PNode => x.id) nodes x.id) = true → goodG ⟨nodes, edges, next⟩ = false from fun h => by rw [HTOPE.out, HUN.out, show hasN ⟨nodes, edges, next⟩ x.id = true from (idxZ_at (fun x : PNode => x.id) nodes x.id).pos.symm.trans h]; simp)
            have HBADc7 := Lib.hid (show decide (idxZ (fun x : PNode => x.id) nodes x.from_ < 0) = true → goodG ⟨nodes, edges, next⟩ = false from fun h => by rw [HTOPE.out, HUN.out, show hasN ⟨nodes, edges, next⟩ x.from_ = false by have h2 := (idxZ_at (fun x : PNode => x.id) nodes x.from_).neg; rw [h] at h2; simpa [hasN] using h2.symm]; simp)
            have HBADc8 := Lib.hid (show decide (idxZ (fun x : PNode => x.id) nodes x.to_ < 0) = true → goodG ⟨nodes, edges, next⟩ = false from fun h => by rw [HTOPE.out, HUN.out, show hasN ⟨nodes, edges, next⟩ x.to_ = false by have h2 := (idxZ_at (fun x : PNode => x.id) nodes x.to_).neg; rw [h] at h2; simpa [hasN] using h2.symm]; simp)
            have HGOOD := Lib.hid (show decide (x.id < 1) = false → decide (next ≤ x.id) = false → decide (x.id ≤ q.id) = false → decide (NameOk x.typ) = true → propsB x.props = true → decide (0 ≤ idxZ (fun x : PNode => x.id) nodes x.id) = false → decide (idxZ (fun x : PNode => x.id) nodes x.from_ < 0) = false → decide (idxZ (fun x : PNode => x.id) nodes x.to_ < 0) = false → goodEs ⟨nodes, edges, next⟩ 0 edges = goodEs ⟨nodes, edges, next⟩ x.id (edges.drop (k + 1)) from fun c1 c2 c3 c4 c5 c6 c7 c8 => by
              have h1 : decide (x.id ≤ last) = false := by rw [HLAST.out]; exact c3
              have h6 : hasN ⟨nodes, edges, next⟩ x.id = false := (idxZ_at (fun x : PNode => x.id) nodes x.id).pos.symm.trans c6
              have h7 : hasN ⟨nodes, edges, next⟩ x.from_ = true := by have h2 := (idxZ_at (fun x : PNode => x.id) nodes x.from_).neg; rw [c7] at h2; simpa [hasN] using h2.symm
              have h8 : hasN ⟨nodes, edges, next⟩ x.to_ = true := by have h2 := (idxZ_at (fun x : PNode => x.id) nodes x.to_).neg; rw [c8] at h2; simpa [hasN] using h2.symm
              rw [HUN.out, h1, c2, h6, h7, h8, c4, c5]; rfl)
            cases c1 : decide (x.id < 1)
            rotate_left 1
            · have HX := Lib.hid (show goodG ⟨nodes, edges, next⟩ = false from HBADc1.out c1)
              go_wp2_with fail
              simp only [List.append_eq, List.cons_append, List.nil_append]
              refine wp_region_grow (by kernel_rfl) (lexB_of _ _ (by kernel_rfl)) ?_
              repeat (go_big_quiet_step (first | exact calls_gr ((refName x.typ _).mono fun e w' ⟨he, hw⟩ => ⟨he, by subst hw; exact Grow.rfl' _⟩) | exact calls_gr (refPropsOk S _ x.props _ (HPA.out.grow (Gr.h _))) | exact calls_gr ((refNode S w.heap.size ⟨nodes, edges, 0⟩ _ _ (HLG.out.grow (HWR.out.step (Gr.h _)))).mono fun e w' ⟨he, hw⟩ => ⟨he, by subst hw; exact Grow.rfl' _⟩)))
              refine wpQuiet_nil ?_
              intro w2 hw2
              go_wp2
              go_ret
              exact ⟨by rw [HX.out]; rfl, (HG0.out.step HWR.out).step hw2⟩
            cases c2 : decide (next ≤ x.id)
            rotate_left 1
            · have HX := Lib.hid (show goodG ⟨nodes, edges, next⟩ = false from HBADc2.out c2)
              go_wp2_with fail
              simp only [List.append_eq, List.cons_append, List.nil_append]
              refine wp_region_grow (by kernel_rfl) (lexB_of _ _ (by kernel_rfl)) ?_
              repeat (go_big_quiet_step (first | exact calls_gr ((refName x.typ _).mono fun e w' ⟨he, hw⟩ => ⟨he, by subst hw; exact Grow.rfl' _⟩) | exact calls_gr (refPropsOk S _ x.props _ (HPA.out.grow (Gr.h _))) | exact calls_gr ((refNode S w.heap.size ⟨nodes, edges, 0⟩ _ _ (HLG.out.grow (HWR.out.step (Gr.h _)))).mono fun e w' ⟨he, hw⟩ => ⟨he, by subst hw; exact Grow.rfl' _⟩)))
              refine wpQuiet_nil ?_
              intro w2 hw2
              go_wp2
              go_ret
              exact ⟨by rw [HX.out]; rfl, (HG0.out.step HWR.out).step hw2⟩
            cases c3 : decide (x.id ≤ q.id)
            rotate_left 1
            · have HX := Lib.hid (show goodG ⟨nodes, edges, next⟩ = false from HBADc3.out c3)
              go_wp2_with fail
              simp only [List.append_eq, List.cons_append, List.nil_append]
              refine wp_region_grow (by kernel_rfl) (lexB_of _ _ (by kernel_rfl)) ?_
              repeat (go_big_quiet_step (first | exact calls_gr ((refName x.typ _).mono fun e w' ⟨he, hw⟩ => ⟨he, by subst hw; exact Grow.rfl' _⟩) | exact calls_gr (refPropsOk S _ x.props _ (HPA.out.grow (Gr.h _))) | exact calls_gr ((refNode S w.heap.size ⟨nodes, edges, 0⟩ _ _ (HLG.out.grow (HWR.out.step (Gr.h _)))).mono fun e w' ⟨he, hw⟩ => ⟨he, by subst hw; exact Grow.rfl' _⟩)))
              refine wpQuiet_nil ?_
              intro w2 hw2
              go_wp2
              go_ret
              exact ⟨by rw [HX.out]; rfl, (HG0.out.step HWR.out).step hw2⟩
            cases c4 : decide (NameOk x.typ)
            · have HX := Lib.hid (show goodG ⟨nodes, edges, next⟩ = false from HBADc4.out c4)
              go_wp2_with fail
              simp only [List.append_eq, List.cons_append, List.nil_append]
              refine wp_region_grow (by kernel_rfl) (lexB_of _ _ (by kernel_rfl)) ?_
              repeat (go_big_quiet_step (first | exact calls_gr ((refName x.typ _).mono fun e w' ⟨he, hw⟩ => ⟨he, by subst hw; exact Grow.rfl' _⟩) | exact calls_gr (refPropsOk S _ x.props _ (HPA.out.grow (Gr.h _))) | exact calls_gr ((refNode S w.heap.size ⟨nodes, edges, 0⟩ _ _ (HLG.out.grow (HWR.out.step (Gr.h _)))).mono fun e w' ⟨he, hw⟩ => ⟨he, by subst hw; exact Grow.rfl' _⟩)))
              refine wpQuiet_nil ?_
              intro w2 hw2
              go_wp2
              go_ret
              exact ⟨by rw [HX.out]; rfl, (HG0.out.step HWR.out).step hw2⟩
            cases c5 : propsB x.props
            · have HX := Lib.hid (show goodG ⟨nodes, edges, next⟩ = false from HBADc5.out c5)
              go_wp2_with fail
              simp only [List.append_eq, List.cons_append, List.nil_append]
              refine wp_region_grow (by kernel_rfl) (lexB_of _ _ (by kernel_rfl)) ?_
              repeat (go_big_quiet_step (first | exact calls_gr ((refName x.typ _).mono fun e w' ⟨he, hw⟩ => ⟨he, by subst hw; exact Grow.rfl' _⟩) | exact calls_gr (refPropsOk S _ x.props _ (HPA.out.grow (Gr.h _))) | exact calls_gr ((refNode S w.heap.size ⟨nodes, edges, 0⟩ _ _ (HLG.out.grow (HWR.out.step (Gr.h _)))).mono fun e w' ⟨he, hw⟩ => ⟨he, by subst hw; exact Grow.rfl' _⟩)))
              refine wpQuiet_nil ?_
              intro w2 hw2
              go_wp2
              go_ret
              exact ⟨by rw [HX.out]; rfl, (HG0.out.step HWR.out).step hw2⟩
            cases c6 : decide (0 ≤ idxZ (fun x : PNode => x.id) nodes x.id)
            rotate_left 1
            · have HX := Lib.hid (show goodG ⟨nodes, edges, next⟩ = false from HBADc6.out c6)
              go_wp2_with fail
              simp only [List.append_eq, List.cons_append, List.nil_append]
              refine wp_region_grow (by kernel_rfl) (lexB_of _ _ (by kernel_rfl)) ?_
              repeat (go_big_quiet_step (first | exact calls_gr ((refName x.typ _).mono fun e w' ⟨he, hw⟩ => ⟨he, by subst hw; exact Grow.rfl' _⟩) | exact calls_gr (refPropsOk S _ x.props _ (HPA.out.grow (Gr.h _))) | exact calls_gr ((refNode S w.heap.size ⟨nodes, edges, 0⟩ _ _ (HLG.out.grow (HWR.out.step (Gr.h _)))).mono fun e w' ⟨he, hw⟩ => ⟨he, by subst hw; exact Grow.rfl' _⟩)))
              refine wpQuiet_nil ?_
              intro w2 hw2
              go_wp2
              go_ret
              exact ⟨by rw [HX.out]; rfl, (HG0.out.step HWR.out).step hw2⟩
            cases c7 : decide (idxZ (fun x : PNode => x.id) nodes x.from_ < 0)
            rotate_left 1
            · have HX := Lib.hid (show goodG ⟨nodes, edges, next⟩ = false from HBADc7.out c7)
              go_wp2_with fail
              simp only [List.append_eq, List.cons_append, List.nil_append]
              refine wp_region_grow (by kernel_rfl) (lexB_of _ _ (by kernel_rfl)) ?_
              repeat (go_big_quiet_step (first | exact calls_gr ((refName x.typ _).mono fun e w' ⟨he, hw⟩ => ⟨he, by subst hw; exact Grow.rfl' _⟩) | exact calls_gr (refPropsOk S _ x.props _ (HPA.out.grow (Gr.h _))) | exact calls_gr ((refNode S w.heap.size ⟨nodes, edges, 0⟩ _ _ (HLG.out.grow (HWR.out.step (Gr.h _)))).mono fun e w' ⟨he, hw⟩ => ⟨he, by subst hw; exact Grow.rfl' _⟩)))
              refine wpQuiet_nil ?_
              intro w2 hw2
              go_wp2
              go_ret
              exact ⟨by rw [HX.out]; rfl, (HG0.out.step HWR.out).step hw2⟩
            cases c8 : decide (idxZ (fun x : PNode => x.id) nodes x.to_ < 0)
            rotate_left 1
            · have HX := Lib.hid (show goodG ⟨nodes, edges, next⟩ = false from HBADc8.out c8)
              go_wp2_with fail
              simp only [List.append_eq, List.cons_append, List.nil_append]
              refine wp_region_grow (by kernel_rfl) (lexB_of _ _ (by kernel_rfl)) ?_
              repeat (go_big_quiet_step (first | exact calls_gr ((refName x.typ _).mono fun e w' ⟨he, hw⟩ => ⟨he, by subst hw; exact Grow.rfl' _⟩) | exact calls_gr (refPropsOk S _ x.props _ (HPA.out.grow (Gr.h _))) | exact calls_gr ((refNode S w.heap.size ⟨nodes, edges, 0⟩ _ _ (HLG.out.grow (HWR.out.step (Gr.h _)))).mono fun e w' ⟨he, hw⟩ => ⟨he, by subst hw; exact Grow.rfl' _⟩)))
              refine wpQuiet_nil ?_
              intro w2 hw2
              go_wp2
              go_ret
              exact ⟨by rw [HX.out]; rfl, (HG0.out.step HWR.out).step hw2⟩
            have HNX := Lib.hid (HGOOD.out c1 c2 c3 c4 c5 c6 c7 c8)
            go_wp2_with fail
            simp only [List.append_eq, List.cons_append, List.nil_append]
            refine wp_region_grow (by kernel_rfl) (lexB_of _ _ (by kernel_rfl)) ?_
            repeat (go_big_quiet_step (first | exact calls_gr ((refName x.typ _).mono fun e w' ⟨he, hw⟩ => ⟨he, by subst hw; exact Grow.rfl' _⟩) | exact calls_gr (refPropsOk S _ x.props _ (HPA.out.grow (Gr.h _))) | exact calls_gr ((refNode S w.heap.size ⟨nodes, edges, 0⟩ _ _ (HLG.out.grow (HWR.out.step (Gr.h _)))).mono fun e w' ⟨he, hw⟩ => ⟨he, by subst hw; exact Grow.rfl' _⟩)))
            refine wpQuiet_nil ?_
            intro w2 hw2
            go_wp2_with fail
            go_roundg (edges.length - (k + 1))
            case measure => omega
            case rel => exact ⟨k + 1, x.id, by omega, rfl, by go_num, HNX.out, .inr ⟨x, by omega, by rw [Nat.add_sub_cancel]; exact HE.out, rfl, HPOS.out c1⟩, HWR.out.step hw2⟩
        · have hkn : k = edges.length := by omega
          subst hkn
          have HX := Lib.hid (show goodG ⟨nodes, edges, next⟩ = true by rw [HTOPE.out, HGD.out, List.drop_length]; rfl)
          clear hgd hgr hgr0 hlast
          go_wp2
          go_ret
          exact ⟨by rw [HX.out]; rfl, HG0.out.step HWR.out⟩
end Go.Hg
