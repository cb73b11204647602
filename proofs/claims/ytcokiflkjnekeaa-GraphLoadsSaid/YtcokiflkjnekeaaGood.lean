/- graph.good: whether nodes and edges are a graph's. Condition: at most 2^40 of each. Printed by gengood.py. -/
import Derived.Test.YtcokiflkjnekeaaScan
namespace Go.Hg
open Go.RowKit Go.Proofs

noncomputable def goodNs (next : Int) : Int → List PNode → Bool
  | _, [] => true
  | last, x :: t => !decide (x.id ≤ last) && (!decide (next ≤ x.id) && (decide (NameOk x.typ) && (propsB x.props && goodNs next x.id t)))
noncomputable def goodEs (G : PGraph) : Int → List PEdge → Bool
  | _, [] => true
  | last, x :: t => !decide (x.id ≤ last) && (!decide (G.next ≤ x.id) && (!hasN G x.id && (hasN G x.from_ && (hasN G x.to_ && (decide (NameOk x.typ) && (propsB x.props && goodEs G x.id t))))))
def sizeOkG (G : PGraph) : Bool := !decide (G.next < 1) && (!decide (4611686018427387904 < G.next) && !decide (1024 < G.nodes.length + G.edges.length))
noncomputable def goodG (G : PGraph) : Bool := sizeOkG G && (goodNs G.next 0 G.nodes && goodEs G 0 G.edges)

theorem goodNs_all {next : Int} : ∀ {l : List PNode} {last : Int}, goodNs next last l = true → (l.map (·.id)).Pairwise (· < ·) ∧ ∀ x ∈ l, last < x.id ∧ x.id < next ∧ NameOk x.typ ∧ PropsOk x.props
  | [], _, _ => ⟨by simp, by simp⟩
  | x :: t, last, h => by
    unfold goodNs at h
    simp only [Bool.and_eq_true, Bool.not_eq_true', decide_eq_false_iff_not, decide_eq_true_eq, propsB_iff] at h
    obtain ⟨h1, h2, h3, h4, h5⟩ := h
    obtain ⟨ih1, ih2⟩ := goodNs_all h5
    refine ⟨?_, ?_⟩
    · rw [List.map_cons, List.pairwise_cons]
      exact ⟨fun y hy => by obtain ⟨z, hz, rfl⟩ := List.mem_map.1 hy; exact (ih2 z hz).1, ih1⟩
    · intro y hy
      rcases List.mem_cons.1 hy with rfl | hy
      · exact ⟨by omega, by omega, h3, h4⟩
      · have := ih2 y hy
        exact ⟨by omega, this.2⟩
theorem goodEs_all {G : PGraph} : ∀ {l : List PEdge} {last : Int}, goodEs G last l = true → (l.map (·.id)).Pairwise (· < ·) ∧ ∀ x ∈ l, last < x.id ∧ x.id < G.next ∧ hasN G x.id = false ∧ hasN G x.from_ = true ∧ hasN G x.to_ = true ∧ NameOk x.typ ∧ PropsOk x.props
  | [], _, _ => ⟨by simp, by simp⟩
  | x :: t, last, h => by
    unfold goodEs at h
    simp only [Bool.and_eq_true, Bool.not_eq_true', decide_eq_false_iff_not, decide_eq_true_eq, propsB_iff] at h
    obtain ⟨h1, h2, h3, h4, h5, h6, h7, h8⟩ := h
    obtain ⟨ih1, ih2⟩ := goodEs_all h8
    refine ⟨?_, ?_⟩
    · rw [List.map_cons, List.pairwise_cons]
      exact ⟨fun y hy => by obtain ⟨z, hz, rfl⟩ := List.mem_map.1 hy; exact (ih2 z hz).1, ih1⟩
    · intro y hy
      rcases List.mem_cons.1 hy with rfl | hy
      · exact ⟨by omega, by omega, h3, h4, h5, h6, h7⟩
      · have := ih2 y hy
        exact ⟨by omega, this.2⟩
theorem goodG_inv {G : PGraph} (h : goodG G = true) : GInv G := by
  unfold goodG sizeOkG at h
  simp only [Bool.and_eq_true, Bool.not_eq_true', decide_eq_false_iff_not] at h
  obtain ⟨⟨h1, h2, h3⟩, h4, h5⟩ := h
  obtain ⟨n1, n2⟩ := goodNs_all h4
  obtain ⟨e1, e2⟩ := goodEs_all h5
  refine ⟨by omega, by omega, by omega, n1, e1, fun x hx => ?_, fun x hx => ?_⟩
  · have := n2 x hx
    exact ⟨by omega, this.2.1, this.2.2.2.1⟩
  · have := e2 x hx
    exact ⟨by omega, this.2.1, this.2.2.2.2.2.2.1⟩

set_option maxRecDepth 100000 in
set_option maxHeartbeats 4000000 in
theorem graphGood (S : Nat → Prop) (B : Nat) (G : PGraph) (w : World) (h : GraphRd 81 S w B G) (hn40 : G.nodes.length ≤ 1099511627776) (he40 : G.edges.length ≤ 1099511627776) :
    Calls Try.prog 53 #[.pointer (some ⟨B, 0, none⟩)] w fun e w' => e = .returned (.bool (goodG G)) ∧ Grow w w' := by
  have HGR := Lib.hid h; have HN40 := Lib.hid hn40; have HE40 := Lib.hid he40
  obtain ⟨na, nc, ea, ec, hB, g0, g1, g2, hn, he⟩ := h.read
  obtain ⟨_, _, hv, hnl, hnc, hAN⟩ := SlR.open hn
  simp only [Value.slice.injEq, true_and] at hv
  obtain ⟨rfl, rfl⟩ := hv
  obtain ⟨_, _, hv, hel, hec, hAE⟩ := SlR.open he
  simp only [Value.slice.injEq, true_and] at hv
  obtain ⟨rfl, rfl⟩ := hv
  unfold maxLen at hnc hec
  have HAN := Lib.hid hAN; have HAE := Lib.hid hAE
  clear h hn he hAN hAE
  have hsum : IntKind.i64.wrap ((G.nodes.length : Int) + (G.edges.length : Int)) = (G.nodes.length : Int) + (G.edges.length : Int) := by rw [IntKind.wrap_i64]; omega
  have hd3 : decide ((1024 : Int) < (G.nodes.length : Int) + (G.edges.length : Int)) = decide (1024 < G.nodes.length + G.edges.length) := by
    by_cases h : 1024 < G.nodes.length + G.edges.length <;> simp [h] <;> omega
  clear hn40 he40
  cases q1 : decide (G.next < 1)
  rotate_left 1
  · have HX := Lib.hid (show goodG G = false by unfold goodG sizeOkG; rw [q1]; rfl)
    go_enter Try.func53, Try.ntmps53
    go_wp2_with fail
    refine wp_region_grow (by kernel_rfl) (by kernel_rfl) ?_
    repeat (go_big_quiet_step (fail))
    refine wpQuiet_nil ?_
    intro w2 hw2
    go_wp2
    go_ret
    exact ⟨by rw [HX.out]; rfl, hw2⟩
  cases q2 : decide (4611686018427387904 < G.next)
  rotate_left 1
  · have HX := Lib.hid (show goodG G = false by unfold goodG sizeOkG; rw [q1, q2]; rfl)
    go_enter Try.func53, Try.ntmps53
    go_wp2_with fail
    refine wp_region_grow (by kernel_rfl) (by kernel_rfl) ?_
    repeat (go_big_quiet_step (fail))
    refine wpQuiet_nil ?_
    intro w2 hw2
    go_wp2
    go_ret
    exact ⟨by rw [HX.out]; rfl, hw2⟩
  cases q3 : decide (1024 < G.nodes.length + G.edges.length)
  rotate_left 1
  · have HX := Lib.hid (show goodG G = false by unfold goodG sizeOkG; rw [q1, q2, q3]; rfl)
    rw [q3] at hd3
    go_enter Try.func53, Try.ntmps53
    go_wp2_with fail
    refine wp_region_grow (by kernel_rfl) (by kernel_rfl) ?_
    repeat (go_big_quiet_step (fail))
    refine wpQuiet_nil ?_
    intro w2 hw2
    go_wp2
    go_ret
    exact ⟨by rw [HX.out]; rfl, hw2⟩
  rw [q3] at hd3
  have HTOP := Lib.hid (show goodG G = (goodNs G.next 0 G.nodes && goodEs G 0 G.edges) by unfold goodG sizeOkG; rw [q1, q2, q3]; rfl)
  go_enter Try.func53, Try.ntmps53
  go_wp2_with fail
  refine wp_region_grow (by kernel_rfl) (by kernel_rfl) ?_
  repeat (go_big_quiet_step (fail))
  refine wpQuiet_nil ?_
  intro w1 hw1
  have hB1 : B < w1.heap.size := Nat.lt_of_lt_of_le hB hw1.size
  have k0 := (hw1.cell (p := ⟨B, 0, none⟩) hB).trans g0
  have k1 := (hw1.cell (p := ⟨B, 1, none⟩) hB).trans g1
  have k2 := (hw1.cell (p := ⟨B, 2, none⟩) hB).trans g2
  have HW1 := Lib.hid hw1
  have G2H := Lib.hid g2; have G1H := Lib.hid g1
  clear q1 q2 q3 hd3 hsum g0 g1 g2 hw1
  go_wp2
  go_loopg [3, 45] G.nodes.length (fun g vl i wr => ∃ (k : Nat) (last : Int), k ≤ G.nodes.length ∧ g = G.nodes.length - k ∧ vl = .int .i64 last ∧ i = .int .i64 k ∧ goodNs G.next 0 G.nodes = goodNs G.next last (G.nodes.drop k) ∧ Grow w wr)
  case atStart => exact ⟨0, 0, by omega, by omega, rfl, rfl, rfl, HW1.out⟩
  case round =>
    obtain ⟨k, last, hk, rfl, rfl, rfl, hgd, hgr⟩ := hrel
    have HGD := Lib.hid hgd; have HGW := Lib.hid hgr
    have hBr : B < wr.heap.size := Nat.lt_of_lt_of_le hB hgr.size
    by_cases hkl : k < G.nodes.length
    · obtain ⟨ba, oa, ra, rfl, hSa, hba, hRa, hca⟩ := HAN.out k G.nodes[k] (List.getElem?_eq_getElem hkl)
      obtain ⟨pva, hba', a0, a1, a2, hpa⟩ := hRa.at hba hgr hca
      have HPA := Lib.hid hpa
      obtain ⟨pa, pc, rfl⟩ := hpa.isSlice
      have HD := Lib.hid (show G.nodes.drop k = G.nodes[k] :: G.nodes.drop (k + 1) from List.drop_eq_getElem_cons hkl)
      have r2 := (hgr.cell (p := ⟨B, 2, none⟩) hB).trans G2H.out
      clear hca hRa hSa hba hgr hpa hgd
      generalize G.nodes[k] = x at *
      have HAG := Lib.hid (show Grow wr (wr.alloc (.cells #[.int .i64 x.id, .string x.typ, .slice pa x.props.length pc] 52)) from (Grow.rfl' wr).allocd _)
      have HUN := Lib.hid (show goodNs G.next 0 G.nodes = (!decide (x.id ≤ last) && (!decide (G.next ≤ x.id) && (decide (NameOk x.typ) && (propsB x.props && goodNs G.next x.id (G.nodes.drop (k + 1)))))) by rw [HGD.out, HD.out]; rfl)
      cases c0 : decide (x.id ≤ last)
      rotate_left 1
      · have HX := Lib.hid (show goodG G = false by rw [HTOP.out, HUN.out, c0]; rfl)
        go_wp2_with fail
        refine wp_region_grow (by kernel_rfl) (by kernel_rfl) ?_
        repeat (go_big_quiet_step (first | exact calls_gr ((valName x.typ _).mono fun e w' ⟨he, hw⟩ => ⟨he, by subst hw; exact Grow.rfl' _⟩) | exact calls_gr (valPropsOk S _ x.props _ (HPA.out.grow (by first | exact HAG.out.step (Gr.h _) | assumption)))))
        refine wpQuiet_nil ?_
        intro w2 hw2
        go_wp2
        go_ret
        exact ⟨by rw [HX.out]; rfl, (HGW.out.step HAG.out).step hw2⟩
      cases c1 : decide (G.next ≤ x.id)
      rotate_left 1
      · have HX := Lib.hid (show goodG G = false by rw [HTOP.out, HUN.out, c0, c1]; rfl)
        go_wp2_with fail
        refine wp_region_grow (by kernel_rfl) (by kernel_rfl) ?_
        repeat (go_big_quiet_step (first | exact calls_gr ((valName x.typ _).mono fun e w' ⟨he, hw⟩ => ⟨he, by subst hw; exact Grow.rfl' _⟩) | exact calls_gr (valPropsOk S _ x.props _ (HPA.out.grow (by first | exact HAG.out.step (Gr.h _) | assumption)))))
        refine wpQuiet_nil ?_
        intro w2 hw2
        go_wp2
        go_ret
        exact ⟨by rw [HX.out]; rfl, (HGW.out.step HAG.out).step hw2⟩
      cases c2 : decide (NameOk x.typ)
      · have HX := Lib.hid (show goodG G = false by rw [HTOP.out, HUN.out, c0, c1, c2]; rfl)
        go_wp2_with fail
        refine wp_region_grow (by kernel_rfl) (by kernel_rfl) ?_
        repeat (go_big_quiet_step (first | exact calls_gr ((valName x.typ _).mono fun e w' ⟨he, hw⟩ => ⟨he, by subst hw; exact Grow.rfl' _⟩) | exact calls_gr (valPropsOk S _ x.props _ (HPA.out.grow (by first | exact HAG.out.step (Gr.h _) | assumption)))))
        refine wpQuiet_nil ?_
        intro w2 hw2
        go_wp2
        go_ret
        exact ⟨by rw [HX.out]; rfl, (HGW.out.step HAG.out).step hw2⟩
      cases c3 : propsB x.props
      · have HX := Lib.hid (show goodG G = false by rw [HTOP.out, HUN.out, c0, c1, c2, c3]; rfl)
        go_wp2_with fail
        refine wp_region_grow (by kernel_rfl) (by kernel_rfl) ?_
        repeat (go_big_quiet_step (first | exact calls_gr ((valName x.typ _).mono fun e w' ⟨he, hw⟩ => ⟨he, by subst hw; exact Grow.rfl' _⟩) | exact calls_gr (valPropsOk S _ x.props _ (HPA.out.grow (by first | exact HAG.out.step (Gr.h _) | assumption)))))
        refine wpQuiet_nil ?_
        intro w2 hw2
        go_wp2
        go_ret
        exact ⟨by rw [HX.out]; rfl, (HGW.out.step HAG.out).step hw2⟩
      have HNX := Lib.hid (show goodNs G.next 0 G.nodes = goodNs G.next x.id (G.nodes.drop (k + 1)) by rw [HUN.out, c0, c1, c2, c3]; rfl)
      go_wp2_with fail
      refine wp_region_grow (by kernel_rfl) (by kernel_rfl) ?_
      repeat (go_big_quiet_step (first | exact calls_gr ((valName x.typ _).mono fun e w' ⟨he, hw⟩ => ⟨he, by subst hw; exact Grow.rfl' _⟩) | exact calls_gr (valPropsOk S _ x.props _ (HPA.out.grow (by first | exact HAG.out.step (Gr.h _) | assumption)))))
      refine wpQuiet_nil ?_
      intro w2 hw2
      have b0 : w2.cell? ⟨wr.heap.size, 0, none⟩ = some (.int .i64 x.id) := by
        have : w2.heap[wr.heap.size]? = some (.cells #[.int .i64 x.id, .string x.typ, .slice pa x.props.length pc] 52 (0, 0)) := by rw [hw2.heapEq (by simp)]; exact heap_alloc_new wr _
        rw [blk_cell this]; rfl
      have bl := cell_lt b0
      go_wp2_with fail
      go_roundg (G.nodes.length - (k + 1))
      case measure => omega
      case rel => exact ⟨k + 1, x.id, by omega, rfl, rfl, by go_num, HNX.out, (HGW.out.step HAG.out).step hw2⟩
    · have hkn : k = G.nodes.length := by omega
      subst hkn
      have HNT := Lib.hid (show goodNs G.next 0 G.nodes = true by rw [HGD.out, List.drop_length]; rfl)
      have HTP := Lib.hid (show goodG G = goodEs G 0 G.edges by rw [HTOP.out, HNT.out]; rfl)
      have HSO := Lib.hid (goodNs_all HNT.out).1
      have r1 := (hgr.cell (p := ⟨B, 1, none⟩) hB).trans G1H.out
      clear hgr hgd
      go_wp2
      generalize wr = wm at *
      go_loopg [3, 82] G.edges.length (fun g vl i wr => ∃ (k : Nat) (last : Int), k ≤ G.edges.length ∧ g = G.edges.length - k ∧ vl = .int .i64 last ∧ i = .int .i64 k ∧ goodEs G 0 G.edges = goodEs G last (G.edges.drop k) ∧ Grow w wr)
      case atStart => exact ⟨0, 0, by omega, by omega, rfl, rfl, rfl, HGW.out⟩
      case round =>
        obtain ⟨k, last, hk, rfl, rfl, rfl, hgd, hgr⟩ := hrel
        have HGD2 := Lib.hid hgd; have HGW2 := Lib.hid hgr
        have hBr2 : B < wr.heap.size := Nat.lt_of_lt_of_le hB hgr.size
        clear r1
        by_cases hkl : k < G.edges.length
        · obtain ⟨ba, oa, ra, rfl, hSa, hba, hRa, hca⟩ := HAE.out k G.edges[k] (List.getElem?_eq_getElem hkl)
          obtain ⟨pva, hba', a0, a1, a2, a3, a4, hpa⟩ := hRa.at hba hgr hca
          have HPA := Lib.hid hpa
          obtain ⟨pa, pc, rfl⟩ := hpa.isSlice
          have HD := Lib.hid (show G.edges.drop k = G.edges[k] :: G.edges.drop (k + 1) from List.drop_eq_getElem_cons hkl)
          clear hca hRa hSa hba hgr hpa hgd
          generalize G.edges[k] = x at *
          have HAL := Lib.hid (show Grow wr (wr.alloc (.cells #[.int .i64 x.id, .string x.typ, .int .i64 x.from_, .int .i64 x.to_, .slice pa x.props.length pc] 56)) from (Grow.rfl' wr).allocd _)
          have HUN := Lib.hid (show goodEs G 0 G.edges = (!decide (x.id ≤ last) && (!decide (G.next ≤ x.id) && (!hasN G x.id && (hasN G x.from_ && (hasN G x.to_ && (decide (NameOk x.typ) && (propsB x.props && goodEs G x.id (G.edges.drop (k + 1))))))))) by rw [HGD2.out, HD.out]; rfl)
          have HBK := Lib.hid (show ∀ w', Grow (wr.alloc (.cells #[.int .i64 x.id, .string x.typ, .int .i64 x.from_, .int .i64 x.to_, .slice pa x.props.length pc] 56)) w' → w'.heap[wr.heap.size]? = some (.cells #[.int .i64 x.id, .string x.typ, .int .i64 x.from_, .int .i64 x.to_, .slice pa x.props.length pc] 56 (0, 0)) from fun w' hg => by
            rw [hg.heapEq (by simp)]; exact heap_alloc_new wr _)
          go_wp2_with fail
          refine (graphNodeR S B G x.id _ (HGR.out.grow (HGW2.out.step HAL.out)) HSO.out HN40.out).mono ?_
          rintro e w3 ⟨i3, b3, rfl, hbs, hg3⟩
          have HB3 := Lib.hid (show hasN G x.id = b3 from (idx_any (fun x : PNode => x.id) hbs).symm)
          have HG3 := Lib.hid (HAL.out.step hg3); have HA3 := Lib.hid hg3
          have c2' : w3.cell? ⟨wr.heap.size, 2, none⟩ = some (.int .i64 x.from_) := by rw [blk_cell (HBK.out w3 hg3)]; rfl
          have cl3 := cell_lt c2'
          clear hbs hg3
          go_wp2_with fail
          refine (graphNodeR S B G x.from_ _ (HGR.out.grow (HGW2.out.step HG3.out)) HSO.out HN40.out).mono ?_
          rintro e w4 ⟨i4, b4, rfl, hbs, hg4⟩
          have HB4 := Lib.hid (show hasN G x.from_ = b4 from (idx_any (fun x : PNode => x.id) hbs).symm)
          have HG4 := Lib.hid (HG3.out.step hg4); have HA4 := Lib.hid (HA3.out.step hg4)
          have c3' : w4.cell? ⟨wr.heap.size, 3, none⟩ = some (.int .i64 x.to_) := by rw [blk_cell (HBK.out w4 HA4.out)]; rfl
          have cl4 := cell_lt c3'
          clear hbs hg4 c2' cl3
          go_wp2_with fail
          refine (graphNodeR S B G x.to_ _ (HGR.out.grow (HGW2.out.step HG4.out)) HSO.out HN40.out).mono ?_
          rintro e w5 ⟨i5, b5, rfl, hbs, hg5⟩
          have HB5 := Lib.hid (show hasN G x.to_ = b5 from (idx_any (fun x : PNode => x.id) hbs).symm)
          have HAG := Lib.hid (HG4.out.step hg5); have HA5 := Lib.hid (HA4.out.step hg5)
          have hb5 := HBK.out w5 HA5.out
          have d0 : w5.cell? ⟨wr.heap.size, 0, none⟩ = some (.int .i64 x.id) := by rw [blk_cell hb5]; rfl
          have d1 : w5.cell? ⟨wr.heap.size, 1, none⟩ = some (.string x.typ) := by rw [blk_cell hb5]; rfl
          have d4 : w5.cell? ⟨wr.heap.size, 4, none⟩ = some (.slice pa x.props.length pc) := by rw [blk_cell hb5]; rfl
          have dl := cell_lt d0
          have dB : B < w5.heap.size := Nat.lt_of_lt_of_le hB (HGW2.out.step HAG.out).size
          have dn : w5.cell? ⟨B, 2, none⟩ = some (.int .i64 G.next) := ((HGW2.out.step HAG.out).cell (p := ⟨B, 2, none⟩) hB).trans G2H.out
          clear hbs hg5 c3' cl4 hb5
          cases c0 : decide (x.id ≤ last)
          rotate_left 1
          · have HX := Lib.hid (show goodG G = false by rw [HTP.out, HUN.out, c0]; rfl)
            go_wp2_with fail
            refine wp_region_grow (by kernel_rfl) (by kernel_rfl) ?_
            repeat (go_big_quiet_step (first | exact calls_gr ((valName x.typ _).mono fun e w' ⟨he, hw⟩ => ⟨he, by subst hw; exact Grow.rfl' _⟩) | exact calls_gr (valPropsOk S _ x.props _ (HPA.out.grow (HAG.out.step (Gr.h _))))))
            refine wpQuiet_nil ?_
            intro w2 hw2
            go_wp2
            go_ret
            exact ⟨by rw [HX.out]; rfl, (HGW2.out.step HAG.out).step hw2⟩
          cases c1 : decide (G.next ≤ x.id)
          rotate_left 1
          · have HX := Lib.hid (show goodG G = false by rw [HTP.out, HUN.out, c0, c1]; rfl)
            go_wp2_with fail
            refine wp_region_grow (by kernel_rfl) (by kernel_rfl) ?_
            repeat (go_big_quiet_step (first | exact calls_gr ((valName x.typ _).mono fun e w' ⟨he, hw⟩ => ⟨he, by subst hw; exact Grow.rfl' _⟩) | exact calls_gr (valPropsOk S _ x.props _ (HPA.out.grow (HAG.out.step (Gr.h _))))))
            refine wpQuiet_nil ?_
            intro w2 hw2
            go_wp2
            go_ret
            exact ⟨by rw [HX.out]; rfl, (HGW2.out.step HAG.out).step hw2⟩
          cases b3
          rotate_left 1
          · have HX := Lib.hid (show goodG G = false by rw [HTP.out, HUN.out, c0, c1, HB3.out]; rfl)
            go_wp2_with fail
            refine wp_region_grow (by kernel_rfl) (by kernel_rfl) ?_
            repeat (go_big_quiet_step (first | exact calls_gr ((valName x.typ _).mono fun e w' ⟨he, hw⟩ => ⟨he, by subst hw; exact Grow.rfl' _⟩) | exact calls_gr (valPropsOk S _ x.props _ (HPA.out.grow (HAG.out.step (Gr.h _))))))
            refine wpQuiet_nil ?_
            intro w2 hw2
            go_wp2
            go_ret
            exact ⟨by rw [HX.out]; rfl, (HGW2.out.step HAG.out).step hw2⟩
          cases b4
          · have HX := Lib.hid (show goodG G = false by rw [HTP.out, HUN.out, c0, c1, HB3.out, HB4.out]; rfl)
            go_wp2_with fail
            refine wp_region_grow (by kernel_rfl) (by kernel_rfl) ?_
            repeat (go_big_quiet_step (first | exact calls_gr ((valName x.typ _).mono fun e w' ⟨he, hw⟩ => ⟨he, by subst hw; exact Grow.rfl' _⟩) | exact calls_gr (valPropsOk S _ x.props _ (HPA.out.grow (HAG.out.step (Gr.h _))))))
            refine wpQuiet_nil ?_
            intro w2 hw2
            go_wp2
            go_ret
            exact ⟨by rw [HX.out]; rfl, (HGW2.out.step HAG.out).step hw2⟩
          cases b5
          · have HX := Lib.hid (show goodG G = false by rw [HTP.out, HUN.out, c0, c1, HB3.out, HB4.out, HB5.out]; rfl)
            go_wp2_with fail
            refine wp_region_grow (by kernel_rfl) (by kernel_rfl) ?_
            repeat (go_big_quiet_step (first | exact calls_gr ((valName x.typ _).mono fun e w' ⟨he, hw⟩ => ⟨he, by subst hw; exact Grow.rfl' _⟩) | exact calls_gr (valPropsOk S _ x.props _ (HPA.out.grow (HAG.out.step (Gr.h _))))))
            refine wpQuiet_nil ?_
            intro w2 hw2
            go_wp2
            go_ret
            exact ⟨by rw [HX.out]; rfl, (HGW2.out.step HAG.out).step hw2⟩
          cases c5 : decide (NameOk x.typ)
          · have HX := Lib.hid (show goodG G = false by rw [HTP.out, HUN.out, c0, c1, HB3.out, HB4.out, HB5.out, c5]; rfl)
            go_wp2_with fail
            refine wp_region_grow (by kernel_rfl) (by kernel_rfl) ?_
            repeat (go_big_quiet_step (first | exact calls_gr ((valName x.typ _).mono fun e w' ⟨he, hw⟩ => ⟨he, by subst hw; exact Grow.rfl' _⟩) | exact calls_gr (valPropsOk S _ x.props _ (HPA.out.grow (HAG.out.step (Gr.h _))))))
            refine wpQuiet_nil ?_
            intro w2 hw2
            go_wp2
            go_ret
            exact ⟨by rw [HX.out]; rfl, (HGW2.out.step HAG.out).step hw2⟩
          cases c6 : propsB x.props
          · have HX := Lib.hid (show goodG G = false by rw [HTP.out, HUN.out, c0, c1, HB3.out, HB4.out, HB5.out, c5, c6]; rfl)
            go_wp2_with fail
            refine wp_region_grow (by kernel_rfl) (by kernel_rfl) ?_
            repeat (go_big_quiet_step (first | exact calls_gr ((valName x.typ _).mono fun e w' ⟨he, hw⟩ => ⟨he, by subst hw; exact Grow.rfl' _⟩) | exact calls_gr (valPropsOk S _ x.props _ (HPA.out.grow (HAG.out.step (Gr.h _))))))
            refine wpQuiet_nil ?_
            intro w2 hw2
            go_wp2
            go_ret
            exact ⟨by rw [HX.out]; rfl, (HGW2.out.step HAG.out).step hw2⟩
          have HNX := Lib.hid (show goodEs G 0 G.edges = goodEs G x.id (G.edges.drop (k + 1)) by rw [HUN.out, c0, c1, HB3.out, HB4.out, HB5.out, c5, c6]; rfl)
          go_wp2_with fail
          refine wp_region_grow (by kernel_rfl) (by kernel_rfl) ?_
          repeat (go_big_quiet_step (first | exact calls_gr ((valName x.typ _).mono fun e w' ⟨he, hw⟩ => ⟨he, by subst hw; exact Grow.rfl' _⟩) | exact calls_gr (valPropsOk S _ x.props _ (HPA.out.grow (by first | exact HAG.out.step (Gr.h _) | assumption)))))
          refine wpQuiet_nil ?_
          intro w2 hw2
          have b0 : w2.cell? ⟨wr.heap.size, 0, none⟩ = some (.int .i64 x.id) := (hw2.cell (p := ⟨wr.heap.size, 0, none⟩) dl).trans d0
          have bl := cell_lt b0
          go_wp2_with fail
          go_roundg (G.edges.length - (k + 1))
          case measure => omega
          case rel => exact ⟨k + 1, x.id, by omega, rfl, rfl, by go_num, HNX.out, (HGW2.out.step HAG.out).step hw2⟩
        · have hkn : k = G.edges.length := by omega
          subst hkn
          have HX := Lib.hid (show goodG G = true by rw [HTP.out, HGD2.out, List.drop_length]; rfl)
          clear hgd hgr
          go_wp2
          go_ret
          exact ⟨by rw [HX.out]; rfl, HGW2.out⟩
end Go.Hg
