/- graph.props, maySetProp; graph.setProp; graph.node, edge of a graph that is only read; Nodes, Edges: copies; graph.Node, Edge: what has an Id, copied; graph.Scan, some, Out, In; adj.ways: the edges that lead from each node; The keys of a map with keys of int64, as the kit's laws of maps.Keys and slices.Sorted want them; maps.Keys and slices.Sorted at map[int64]int, slices.Sort at []int64: their contracts. Conditions: those that each theorem names. -/
import Derived.Test.YtfffnkgdpbaakaaGreatAdjC
import Derived.Deep.RegionHeld3
import Derived.Laws.ResultCell
import Derived.Test.YtfffnkgdpbaakaaGreatAdjA
import Derived.Lib.SlKeysI
import Derived.Shelf.SlIterI.Nil
import Derived.Shelf.SortM.Plain
import Derived.Shelf.SortM.SortNone
namespace Go.Hg
open Go.RowKit Go.Proofs

/-- where the properties of an Id lie -/
def PropsAt (G : PGraph) (on oe : Option Nat) (id : Int) (v : Value) : Prop :=
  (hasN G id = true ∧ ∃ (i : Nat) (x : PNode) (g : Nat), G.nodes[i]? = some x ∧ x.id = id ∧ on = some g ∧ v = .pointer (some ⟨g, i * 3 + 2, none⟩)) ∨
  (hasN G id = false ∧ hasE G id = true ∧ ∃ (i : Nat) (x : PEdge) (g : Nat), G.edges[i]? = some x ∧ x.id = id ∧ oe = some g ∧ v = .pointer (some ⟨g, i * 5 + 4, none⟩)) ∨
  (hasN G id = false ∧ hasE G id = false ∧ v = .pointer none)

theorem OwnL.sliceAt {α : Type} {w : World} {E : TypeId} {sz : Nat} {R : α → List Value → Prop} {v : Value} {l : List α} {ob : Option Nat} (h : OwnL w E sz R v l ob) {i : Nat} (hi : i < l.length) :
    ∃ g cap, v = .slice (some ⟨g, 0, none⟩) l.length cap ∧ ob = some g := by
  obtain ⟨rows, h1, h2, h3⟩ := h
  obtain ⟨g, cap, hv, ho, _⟩ := h3.cell (by omega)
  exact ⟨g, cap, hv, ho⟩

set_option maxRecDepth 100000 in
set_option maxHeartbeats 1000000 in
theorem graphProps (S R : Nat → Prop) (B : Nat) (G : PGraph) (nv ev : Value) (on oe : Option Nat) (id : Int) (w : World) (h : GraphOk 98 S w B G) (hG : GInv G)
    (hb : w.heap[B]? = some (.cells #[nv, ev, .int .i64 G.next] 98 (0, 0))) (h7 : OwnL w 52 3 (RNode R w) nv G.nodes on) (h8 : OwnL w 41 5 (REdge R w) ev G.edges oe) :
    Calls Tryz.prog 101 #[.pointer (some ⟨B, 0, none⟩), .int .i64 id] w fun e w' => ∃ v, e = .returned v ∧ PropsAt G on oe id v ∧ Grow w w' := by
  have HGR := Lib.hid h; have HI := Lib.hid hG; have H7 := Lib.hid h7; have H8 := Lib.hid h8; have HB := Lib.hid hb
  have hB : B < w.heap.size := blk_lt hb
  clear h hG h7 h8 hb
  go_enter Tryz.func101, Tryz.ntmps101
  go_wp2_with fail
  refine (graphNode_ S B G id _ HGR.out HI.out).mono ?_
  rintro e w2 ⟨i, b, rfl, hbs, hg⟩
  have HBS := Lib.hid hbs; have HG2 := Lib.hid hg
  have e1 := idx_any (fun x : PNode => x.id) hbs
  have HE1 := Lib.hid e1
  have HB2 := Lib.hid ((hg.heapEq hB).trans HB.out)
  clear hbs hg e1
  cases b
  · go_wp2_with fail
    refine (graphEdge_ S B G id _ (HGR.out.grow HG2.out) HI.out).mono ?_
    rintro e w3 ⟨i3, b3, rfl, hbs, hg⟩
    have HBS3 := Lib.hid hbs; have HG3 := Lib.hid (HG2.out.step hg)
    have e1 := idx_any (fun x : PEdge => x.id) hbs
    have HE3 := Lib.hid e1
    have HB3 := Lib.hid ((hg.heapEq (blk_lt HB2.out)).trans HB2.out)
    clear hbs hg e1
    cases b3
    · go_wp2
      go_ret
      exact ⟨_, rfl, .inr (.inr ⟨HE1.out.symm, HE3.out.symm, rfl⟩), HG3.out⟩
    · obtain ⟨x, hx, hxi⟩ := idx_at (fun x : PEdge => x.id) HBS3.out
      have hil : i3 < G.edges.length := (List.getElem?_eq_some_iff.1 hx).1
      have HX := Lib.hid hx; have HXI := Lib.hid hxi
      obtain ⟨g, cap, rfl, rfl⟩ := H8.out.sliceAt hil
      have g1 : w3.cell? ⟨B, 1, none⟩ = some (.slice (some ⟨g, 0, none⟩) G.edges.length cap) := by rw [blk_cell HB3.out]; rfl
      clear hx hxi
      go_wp2
      go_ret
      exact ⟨_, rfl, .inr (.inl ⟨HE1.out.symm, HE3.out.symm, i3, x, g, HX.out, HXI.out, rfl, rfl⟩), HG3.out⟩
  · obtain ⟨x, hx, hxi⟩ := idx_at (fun x : PNode => x.id) HBS.out
    have hil : i < G.nodes.length := (List.getElem?_eq_some_iff.1 hx).1
    have HX := Lib.hid hx; have HXI := Lib.hid hxi
    obtain ⟨g, cap, rfl, rfl⟩ := H7.out.sliceAt hil
    have g0 : w2.cell? ⟨B, 0, none⟩ = some (.slice (some ⟨g, 0, none⟩) G.nodes.length cap) := by rw [blk_cell HB2.out]; rfl
    clear hx hxi
    go_wp2
    go_ret
    exact ⟨_, rfl, .inl ⟨HE1.out.symm, i, x, g, HX.out, HXI.out, rfl, rfl⟩, HG2.out⟩

/-- what lies there -/
theorem PropsAt.read {G : PGraph} {R : Nat → Prop} {nv ev : Value} {on oe : Option Nat} {id : Int} {v : Value} {w : World} (h : PropsAt G on oe id v) (hG : GInv G) (h7 : OwnL w 52 3 (RNode R w) nv G.nodes on) (h8 : OwnL w 41 5 (REdge R w) ev G.edges oe) :
    (findP G id = none ∧ v = .pointer none) ∨ ∃ g k ps pv, findP G id = some ps ∧ ps.length ≤ 8 ∧ v = .pointer (some ⟨g, k, none⟩) ∧ (on = some g ∨ oe = some g) ∧ w.cell? ⟨g, k, none⟩ = some pv ∧ w.frozen? ⟨g, k, none⟩ = false ∧ PropsR R w pv ps := by
  rcases h with ⟨hn, i, x, g, hx, hxi, rfl, rfl⟩ | ⟨hn, he, i, x, g, hx, hxi, rfl, rfl⟩ | ⟨hn, he, rfl⟩
  · obtain ⟨r, ⟨pv, rfl, hp⟩, -, hc⟩ := h7.row hx
    have hil : i < G.nodes.length := (List.getElem?_eq_some_iff.1 hx).1
    refine .inr ⟨g, _, x.props, pv, ?_, (hG.nodesB x (List.mem_of_getElem? hx)).2.2, rfl, .inl rfl, by have := hc 2 pv rfl; rwa [Nat.zero_add] at this, (h7.slot hil (by omega)).2, hp⟩
    unfold findP
    rw [find_idx (fun x : PNode => x.id) hG.nodes hx hxi]
  · obtain ⟨r, ⟨pv, rfl, hp⟩, -, hc⟩ := h8.row hx
    have hil : i < G.edges.length := (List.getElem?_eq_some_iff.1 hx).1
    refine .inr ⟨g, _, x.props, pv, ?_, (hG.edgesB x (List.mem_of_getElem? hx)).2.2, rfl, .inr rfl, by have := hc 4 pv rfl; rwa [Nat.zero_add] at this, (h8.slot hil (by omega)).2, hp⟩
    unfold findP
    rw [find_none (fun x : PNode => x.id) hn, find_idx (fun x : PEdge => x.id) hG.edges hx hxi]
  · refine .inl ⟨?_, rfl⟩
    unfold findP
    rw [find_none (fun x : PNode => x.id) hn, find_none (fun x : PEdge => x.id) he]

set_option maxRecDepth 100000 in
set_option maxHeartbeats 2000000 in
theorem maySetProp (S SC : Nat → Prop) (B : Nat) (G : PGraph) (nv ev rv iv : Value) (c : PCat) (o : POp) (w : World) (h : GraphOk 98 S w B G) (hG : GInv G) (hc : CatR SC w nv ev rv iv c) (hk : o.kind = 5) :
    Calls Tryz.prog 79 #[.pointer (some ⟨B, 0, none⟩), c.arg nv ev rv iv, o.args] w fun e w' => e = .returned (.int .i64 (mayG c o G)) ∧ Grow w w' := by
  have HGR := Lib.hid h; have HI := Lib.hid hG
  have HM := Lib.hid (show mayG c o G = (if ¬ NameOk o.name ∨ (¬ GoodV o.v ∧ ¬ BlankV o.v) then 142 else match findP G o.id with | none => 60 | some ps => if 8 < (setP ps o.name o.v).length then 3 else 0) by unfold mayG; rw [if_neg (by omega), if_neg (by omega), if_neg (by omega), if_neg (by omega), if_pos hk]; rfl)
  obtain ⟨na, nc, ea, ec, ra, rc, ia, ic, rfl, rfl, rfl, rfl⟩ := hc.slices
  have HW := Lib.hid (show ∀ o1 o2, Grow w ((w.alloc o1).alloc o2) from fun o1 o2 => ((Grow.rfl' w).allocd o1).allocd o2)
  have HOP := Lib.hid (show ∀ o1, OpAt ((w.alloc o1).alloc (.cells o.cells.toArray 63)) (w.heap.size + 1) o from fun o1 => by
    have := heap_alloc_new (w.alloc o1) (.cells o.cells.toArray 63)
    rw [World.size_alloc] at this
    exact this)
  obtain ⟨nv, ev, R, on, oe, h1, h2, h3, h4, h5, h6, h7, h8⟩ := h.parts (by decide) (by decide)
  have H7 := Lib.hid h7; have H8 := Lib.hid h8; have HB := Lib.hid h1
  have hB : B < w.heap.size := blk_lt h1
  clear h hc hG hk h1 h2 h3 h4 h5 h6 h7 h8
  go_enter Tryz.func79, Tryz.ntmps79
  go_wp2_with fail
  refine (graphProps S R B G nv ev on oe o.id _ (HGR.out.grow (HW.out _ _)) HI.out (((HW.out _ _).heapEq hB).trans HB.out) (H7.out.nodesMod (Mod.of_grow (F := fun _ => False) (HW.out _ _)) (fun _ _ => id) (fun _ _ => id)) (H8.out.edgesMod (Mod.of_grow (F := fun _ => False) (HW.out _ _)) (fun _ _ => id) (fun _ _ => id))).mono ?_
  rintro e w2 ⟨pv, rfl, hpa, hg⟩
  have HG2 := Lib.hid ((HW.out _ _).step hg); have HPA := Lib.hid hpa
  have HOP2 := Lib.hid ((HOP.out _).grow hg)
  clear hpa hg
  obtain ⟨hlt, -, -, -, -, -, c5, c6, c7, c8, -⟩ := HOP2.out.at
  have HRD := Lib.hid (HPA.out.read HI.out (H7.out.nodesMod (Mod.of_grow (F := fun _ => False) HG2.out) (fun _ _ => id) (fun _ _ => id)) (H8.out.edgesMod (Mod.of_grow (F := fun _ => False) HG2.out) (fun _ _ => id) (fun _ _ => id)))
  rcases HRD.out with ⟨hf, rfl⟩ | ⟨g, k, ps, pv', hf, hl8, rfl, hon, hcell, hfz, hp⟩
  · have HF := Lib.hid hf; clear hf
    go_wp2_with fail
    refine (valName o.name _).mono ?_
    rintro e w3 ⟨rfl, rfl⟩
    cases hn : decide (NameOk o.name)
    · have HNN := Lib.hid (of_decide_eq_false hn); clear hn
      go_wp2
      go_ret
      exact ⟨by rw [HM.out, if_pos (.inl HNN.out)]; rfl, HG2.out⟩
    · have HNN := Lib.hid (of_decide_eq_true hn); clear hn
      go_wp2_with fail
      refine (valGood o.v _).mono ?_
      rintro e w4 ⟨rfl, hg4⟩
      have HG4 := Lib.hid (HG2.out.step hg4)
      have HOP4 := Lib.hid (HOP2.out.grow hg4)
      have HG24 := Lib.hid hg4
      clear hlt c5 c6 c7 c8 hg4
      obtain ⟨hlt, -, -, -, -, -, c5, c6, c7, c8, -⟩ := HOP4.out.at
      cases hgd : decide (GoodV o.v)
      · have HGD := Lib.hid (of_decide_eq_false hgd); clear hgd
        by_cases hbl : BlankV o.v
        · have HBL := Lib.hid hbl
          obtain ⟨q1, q2, q3⟩ := hbl
          rw [q1] at c6; rw [q2] at c7; rw [q3] at c8
          clear q1 q2 q3
          go_wp2
          go_ret
          exact ⟨by rw [HM.out, if_neg (by intro h; rcases h with h | h; exact h HNN.out; exact h.2 HBL.out), HF.out]; rfl, HG4.out⟩
        · have HBL := Lib.hid hbl; clear hbl
          go_wp2
          all_goals
            go_ret
            first
              | exact ⟨by rw [HM.out, if_pos (.inr ⟨HGD.out, HBL.out⟩)]; rfl, HG4.out⟩
              | exact (HBL.out (by simp_all [BlankV])).elim
      · have HGD := Lib.hid (of_decide_eq_true hgd); clear hgd
        go_wp2
        go_ret
        exact ⟨by rw [HM.out, if_neg (by intro h; rcases h with h | h; exact h HNN.out; exact h.1 HGD.out), HF.out]; rfl, HG4.out⟩
  · have HF := Lib.hid hf; have HL8 := Lib.hid hl8
    have HCELL2 := Lib.hid hcell; have HP2 := Lib.hid hp
    clear hf hcell hfz hp hon
    go_wp2_with fail
    refine (valName o.name _).mono ?_
    rintro e w3 ⟨rfl, rfl⟩
    cases hn : decide (NameOk o.name)
    · have HNN := Lib.hid (of_decide_eq_false hn); clear hn
      go_wp2
      go_ret
      exact ⟨by rw [HM.out, if_pos (.inl HNN.out)]; rfl, HG2.out⟩
    · have HNN := Lib.hid (of_decide_eq_true hn); clear hn
      go_wp2_with fail
      refine (valGood o.v _).mono ?_
      rintro e w4 ⟨rfl, hg4⟩
      have HG4 := Lib.hid (HG2.out.step hg4)
      have HOP4 := Lib.hid (HOP2.out.grow hg4)
      have HG24 := Lib.hid hg4
      clear hlt c5 c6 c7 c8 hg4
      obtain ⟨hlt, -, -, -, -, -, c5, c6, c7, c8, -⟩ := HOP4.out.at
      have HCELL := Lib.hid ((HG24.out.cell (p := ⟨g, k, none⟩) (cell_lt HCELL2.out)).trans HCELL2.out)
      have HPR := Lib.hid (HP2.out.grow HG24.out)
      cases hgd : decide (GoodV o.v)
      · have HGD := Lib.hid (of_decide_eq_false hgd); clear hgd
        by_cases hbl : BlankV o.v
        · have HBL := Lib.hid hbl
          have HIF := Lib.hid (show ¬ (¬ NameOk o.name ∨ (¬ GoodV o.v ∧ ¬ BlankV o.v)) by intro h; rcases h with h | h; exact h HNN.out; exact h.2 HBL.out)
          obtain ⟨q1, q2, q3⟩ := hbl
          rw [q1] at c6; rw [q2] at c7; rw [q3] at c8
          clear q1 q2 q3
          go_wp2_with fail
          obtain ⟨pa, pc, rfl⟩ := HPR.out.isSlice
          have HS := Lib.hid (show ∀ w', Grow w4 w' → (w'.cell? ⟨g, k, none⟩ = some (.slice pa ps.length pc) ∧ w'.cell? ⟨w.heap.size + 1, 5, none⟩ = some (.string o.name) ∧ w'.cell? ⟨w.heap.size + 1, 6, none⟩ = some (.int .i64 o.v.kind) ∧ w'.cell? ⟨w.heap.size + 1, 7, none⟩ = some (.int .i64 o.v.n) ∧ w'.cell? ⟨w.heap.size + 1, 8, none⟩ = some (.string o.v.s)) from fun w' hg => by
            obtain ⟨-, -, -, -, -, -, d5, d6, d7, d8, -⟩ := (HOP4.out.grow hg).at
            exact ⟨(hg.cell (p := ⟨g, k, none⟩) (cell_lt HCELL.out)).trans HCELL.out, d5, d6, d7, d8⟩)
          have hcl4 := HCELL.out
          clear c6 c7 c8 c5
          obtain ⟨-, -, -, -, -, -, c5, c6, c7, c8, -⟩ := HOP4.out.at
          by_cases h8 : 8 < (setP ps o.name o.v).length
          all_goals
            have H8L := Lib.hid h8
            have h8' : decide (8 < ((setP ps o.name o.v).length : Int)) = decide (8 < (setP ps o.name o.v).length) := by
              by_cases h : 8 < (setP ps o.name o.v).length <;> simp [h] <;> omega
            clear h8
            go_wp2_with fail
            go_region_held3 (fun w' => w'.cell? ⟨g, k, none⟩ = some (.slice pa ps.length pc) ∧ w'.cell? ⟨w.heap.size + 1, 5, none⟩ = some (.string o.name) ∧ w'.cell? ⟨w.heap.size + 1, 6, none⟩ = some (.int .i64 o.v.kind) ∧ w'.cell? ⟨w.heap.size + 1, 7, none⟩ = some (.int .i64 o.v.n) ∧ w'.cell? ⟨w.heap.size + 1, 8, none⟩ = some (.string o.v.s)) (first | exact HS.out _ ((Grow.rfl' w4).drewd) | exact HS.out _ (((Grow.rfl' w4).drewd).step hg5)) (first | (go_at_call 104; refine (valSet R _ ps o.name o.v _ (HPR.out.grow ((Grow.rfl' w4).drewd)) (by omega)).mono ?_; rintro e w5 ⟨v5, rfl, hp5, hg5⟩; have HG5 := Lib.hid hg5; obtain ⟨a5, k5, rfl⟩ := hp5.isSlice; clear hp5))
            go_wp2
            go_ret
            refine ⟨?_, HG4.out.step (((Grow.rfl' w4).drewd).step HG5.out)⟩
            have e : mayG c o G = (if 8 < (setP ps o.name o.v).length then 3 else 0) := by rw [HM.out, if_neg HIF.out, HF.out]
            rw [e]
            first | (rw [if_pos H8L.out]; rfl) | (rw [if_neg H8L.out]; rfl)
        · have HBL := Lib.hid hbl
          have hnb : ¬ (o.v.kind = 0 ∧ o.v.n = 0 ∧ o.v.s = ByteArray.empty) := hbl
          clear hbl
          by_cases q1 : o.v.kind = 0
          · by_cases q2 : o.v.n = 0
            · have q3 : ¬ o.v.s = ByteArray.empty := fun h => hnb ⟨q1, q2, h⟩
              rw [q1] at c6; rw [q2] at c7
              clear hnb q1 q2
              have q3' : decide (o.v.s = ByteArray.empty) = false := decide_eq_false q3
              go_wp2
              go_ret
              exact ⟨by rw [HM.out, if_pos (.inr ⟨HGD.out, HBL.out⟩)]; rfl, HG4.out⟩
            · rw [q1] at c6
              have q2' : (o.v.n == 0) = false := by simpa using q2
              clear hnb q1
              go_wp2
              go_ret
              exact ⟨by rw [HM.out, if_pos (.inr ⟨HGD.out, HBL.out⟩)]; rfl, HG4.out⟩
          · have q1' : (o.v.kind == 0) = false := by simpa using q1
            clear hnb
            go_wp2
            go_ret
            exact ⟨by rw [HM.out, if_pos (.inr ⟨HGD.out, HBL.out⟩)]; rfl, HG4.out⟩
      · have HGD := Lib.hid (of_decide_eq_true hgd); clear hgd
        have HIF := Lib.hid (show ¬ (¬ NameOk o.name ∨ (¬ GoodV o.v ∧ ¬ BlankV o.v)) by intro h; rcases h with h | h; exact h HNN.out; exact h.1 HGD.out)
        go_wp2_with fail
        obtain ⟨pa, pc, rfl⟩ := HPR.out.isSlice
        have HS := Lib.hid (show ∀ w', Grow w4 w' → (w'.cell? ⟨g, k, none⟩ = some (.slice pa ps.length pc) ∧ w'.cell? ⟨w.heap.size + 1, 5, none⟩ = some (.string o.name) ∧ w'.cell? ⟨w.heap.size + 1, 6, none⟩ = some (.int .i64 o.v.kind) ∧ w'.cell? ⟨w.heap.size + 1, 7, none⟩ = some (.int .i64 o.v.n) ∧ w'.cell? ⟨w.heap.size + 1, 8, none⟩ = some (.string o.v.s)) from fun w' hg => by
          obtain ⟨-, -, -, -, -, -, d5, d6, d7, d8, -⟩ := (HOP4.out.grow hg).at
          exact ⟨(hg.cell (p := ⟨g, k, none⟩) (cell_lt HCELL.out)).trans HCELL.out, d5, d6, d7, d8⟩)
        have hcl4 := HCELL.out
        clear c6 c7 c8 c5
        obtain ⟨-, -, -, -, -, -, c5, c6, c7, c8, -⟩ := HOP4.out.at
        by_cases h8 : 8 < (setP ps o.name o.v).length
        all_goals
          have H8L := Lib.hid h8
          have h8' : decide (8 < ((setP ps o.name o.v).length : Int)) = decide (8 < (setP ps o.name o.v).length) := by
            by_cases h : 8 < (setP ps o.name o.v).length <;> simp [h] <;> omega
          clear h8
          go_wp2_with fail
          go_region_held3 (fun w' => w'.cell? ⟨g, k, none⟩ = some (.slice pa ps.length pc) ∧ w'.cell? ⟨w.heap.size + 1, 5, none⟩ = some (.string o.name) ∧ w'.cell? ⟨w.heap.size + 1, 6, none⟩ = some (.int .i64 o.v.kind) ∧ w'.cell? ⟨w.heap.size + 1, 7, none⟩ = some (.int .i64 o.v.n) ∧ w'.cell? ⟨w.heap.size + 1, 8, none⟩ = some (.string o.v.s)) (first | exact HS.out _ ((Grow.rfl' w4).drewd) | exact HS.out _ (((Grow.rfl' w4).drewd).step hg5)) (first | (go_at_call 104; refine (valSet R _ ps o.name o.v _ (HPR.out.grow ((Grow.rfl' w4).drewd)) (by omega)).mono ?_; rintro e w5 ⟨v5, rfl, hp5, hg5⟩; have HG5 := Lib.hid hg5; obtain ⟨a5, k5, rfl⟩ := hp5.isSlice; clear hp5))
          go_wp2
          go_ret
          refine ⟨?_, HG4.out.step (((Grow.rfl' w4).drewd).step HG5.out)⟩
          have e : mayG c o G = (if 8 < (setP ps o.name o.v).length then 3 else 0) := by rw [HM.out, if_neg HIF.out, HF.out]
          rw [e]
          first | (rw [if_pos H8L.out]; rfl) | (rw [if_neg H8L.out]; rfl)
end Go.Hg

namespace Go.Hg
open Go.RowKit Go.Proofs

theorem flatten_set1 {α : Type} : ∀ (rows : List (List α)) (sz i t : Nat) (r : List α) (u : α), (∀ r ∈ rows, r.length = sz) → rows[i]? = some r → t < sz → rows.flatten.set (i * sz + t) u = (rows.set i (r.set t u)).flatten
  | [], sz, i, t, r, u, _, h, _ => by simp at h
  | r0 :: rows, sz, 0, t, r, u, h0, h, ht => by
    simp at h; subst h
    have h1 : r0.length = sz := h0 r0 (by simp)
    simp [List.set_append_left _ _ (show t < r0.length by omega)]
  | r0 :: rows, sz, i + 1, t, r, u, h0, h, ht => by
    have h1 : r0.length = sz := h0 r0 (by simp)
    have ih := flatten_set1 rows sz i t r u (fun r hr => h0 r (by simp [hr])) (by simpa using h) ht
    rw [List.flatten_cons, List.set_append_right _ _ (by rw [h1, Nat.succ_mul]; omega)]
    rw [show (i + 1) * sz + t - r0.length = i * sz + t by rw [h1, Nat.succ_mul]; omega, ih]
    simp
theorem OwnL.setOne {α : Type} {w : World} {E : TypeId} {sz : Nat} {R R' : α → List Value → Prop} {v : Value} {l : List α} {g i t : Nat} {x x' : α} {u : Value} (h : OwnL w E sz R v l (some g)) (hi : l[i]? = some x) (ht : t < sz)
    (hx : ∀ r, R x r → R' x' (r.set t u)) (hR : ∀ (j : Nat) y r, j ≠ i → l[j]? = some y → R y r → R' y r) : OwnL (w.setCell ⟨g, i * sz + t, none⟩ u) E sz R' v (l.set i x') (some g) := by
  obtain ⟨rows, h1, hlen, h2, h3⟩ := h.rowLen
  have hil : i < l.length := (List.getElem?_eq_some_iff.1 hi).1
  have hr : rows[i]? = some (rows[i]'(by omega)) := List.getElem?_eq_getElem _
  refine ⟨rows.set i ((rows[i]'(by omega)).set t u), by simp [h1], fun j y r hj hr' => ?_, ?_⟩
  · rw [List.getElem?_set] at hj hr'
    by_cases hij : i = j
    · subst hij
      rw [if_pos rfl, if_pos hil] at hj
      rw [if_pos rfl, if_pos (by omega)] at hr'
      cases hj; cases hr'
      obtain ⟨a, b⟩ := h2 i x _ hi hr
      exact ⟨hx _ a, by rw [List.length_set]; exact b⟩
    · rw [if_neg hij] at hj hr'
      obtain ⟨a, b⟩ := h2 j y r hj hr'
      exact ⟨hR j _ _ (fun e => hij e.symm) hj a, b⟩
  · rw [← flatten_set1 rows sz i t _ u hlen hr ht, List.length_set]
    exact h3.stored rfl _ _

theorem setProp_close {S R : Nat → Prop} {T : TypeId} {w w5 : World} {B : Nat} {G : PGraph} {nv ev : Value} {on oe : Option Nat} {o : POp} {g k : Nat} {ps : List PProp} {v5 : Value} (hG : GInv G)
    (h1 : w.heap[B]? = some (.cells #[nv, ev, .int .i64 G.next] T (0, 0))) (h2 : S B) (h3 : ¬ R B) (h4 : ∀ b, R b → S b ∧ b < w.heap.size) (h5 : ∀ g, on = some g → S g ∧ ¬ R g ∧ g ≠ B ∧ g < w.heap.size ∧ oe ≠ some g)
    (h6 : ∀ g, oe = some g → S g ∧ ¬ R g ∧ g ≠ B ∧ g < w.heap.size ∧ on ≠ some g) (h7 : OwnL w 52 3 (RNode R w) nv G.nodes on) (h8 : OwnL w 41 5 (REdge R w) ev G.edges oe)
    (hpa : PropsAt G on oe o.id (.pointer (some ⟨g, k, none⟩))) (hf : findP G o.id = some ps) (hg : Grow w w5) (hp : PropsR (fun b => w.heap.size ≤ b) w5 v5 (setP ps o.name o.v)) :
    GraphOk T (fun b => S b ∨ w.heap.size ≤ b) (w5.setCell ⟨g, k, none⟩ v5) B (setPropG o G) ∧ Mod S w (w5.setCell ⟨g, k, none⟩ v5) := by
  have hgw : g < w.heap.size ∧ S g ∧ ¬ R g ∧ g ≠ B := by
    rcases hpa with ⟨-, i, x, g', -, -, ho, e⟩ | ⟨-, -, i, x, g', -, -, ho, e⟩ | ⟨-, -, e⟩
    · simp only [Value.pointer.injEq, Option.some.injEq, Addr.mk.injEq, and_true] at e
      obtain ⟨rfl, rfl⟩ := e
      exact ⟨(h5 _ ho).2.2.2.1, (h5 _ ho).1, (h5 _ ho).2.1, (h5 _ ho).2.2.1⟩
    · simp only [Value.pointer.injEq, Option.some.injEq, Addr.mk.injEq, and_true] at e
      obtain ⟨rfl, rfl⟩ := e
      exact ⟨(h6 _ ho).2.2.2.1, (h6 _ ho).1, (h6 _ ho).2.1, (h6 _ ho).2.2.1⟩
    · simp at e
  obtain ⟨hgw, hSg, hRg, hgB⟩ := hgw
  have m5 : Mod (fun b => b = g) w5 (w5.setCell ⟨g, k, none⟩ v5) := (Mod.rfl' (fun b => b = g) w5).setd (p := ⟨g, k, none⟩) (.inl rfl) v5
  have m6 : Mod (fun b => b = g) w (w5.setCell ⟨g, k, none⟩ v5) := (Mod.of_grow hg).step m5
  have hs5 := hg.size
  have hs6 : (w5.setCell ⟨g, k, none⟩ v5).heap.size = w5.heap.size := by simp
  have hpc := hp.cut
  refine ⟨?_, m6.mono (fun b e => e ▸ hSg)⟩
  have hR' : ∀ b, (R b ∨ (w.heap.size ≤ b ∧ b < w5.heap.size)) → (S b ∨ w.heap.size ≤ b) ∧ b < (w5.setCell ⟨g, k, none⟩ v5).heap.size := by
    rw [hs6]
    intro b hb
    rcases hb with hb | hb
    · exact ⟨.inl (h4 b hb).1, by have := (h4 b hb).2; omega⟩
    · exact ⟨.inr hb.1, hb.2⟩
  have hRn : ∀ b, R b → ¬ (b = g) := fun b hb e => hRg (e ▸ hb)
  have hpg : ∀ b, (w.heap.size ≤ b ∧ b < w5.heap.size) → ¬ (b = g) := fun b hb e => by omega
  have hpv : PropsR (fun b => R b ∨ (w.heap.size ≤ b ∧ b < w5.heap.size)) (w5.setCell ⟨g, k, none⟩ v5) v5 (setP ps o.name o.v) := (hpc.mod m5 hpg).sub (fun b hb => .inr hb)
  have hB : (w5.setCell ⟨g, k, none⟩ v5).heap[B]? = some (.cells #[nv, ev, .int .i64 G.next] T (0, 0)) := (m6.block B (blk_lt h1) (fun e => hgB e.symm)).trans h1
  have hnB : ¬ (R B ∨ (w.heap.size ≤ B ∧ B < w5.heap.size)) := fun h => h.elim h3 (fun h => by have := blk_lt h1; omega)
  have hon : ∀ g, on = some g → (S g ∨ w.heap.size ≤ g) ∧ ¬ (R g ∨ (w.heap.size ≤ g ∧ g < w5.heap.size)) := fun g hg => ⟨.inl (h5 g hg).1, fun h => h.elim (h5 g hg).2.1 (fun h => by have := (h5 g hg).2.2.2.1; omega)⟩
  have hoe : ∀ g, oe = some g → (S g ∨ w.heap.size ≤ g) ∧ ¬ (R g ∨ (w.heap.size ≤ g ∧ g < w5.heap.size)) := fun g hg => ⟨.inl (h6 g hg).1, fun h => h.elim (h6 g hg).2.1 (fun h => by have := (h6 g hg).2.2.2.1; omega)⟩
  have h7' := h7.nodesMod (Mod.of_grow (F := fun _ => False) hg) (fun _ _ => id) (fun _ _ => id)
  have h8' := h8.edgesMod (Mod.of_grow (F := fun _ => False) hg) (fun _ _ => id) (fun _ _ => id)
  rcases hpa with ⟨hn, i, x, g', hx, hxi, ho, e⟩ | ⟨hn, he, i, x, g', hx, hxi, ho, e⟩ | ⟨-, -, e⟩
  · simp only [Value.pointer.injEq, Option.some.injEq, Addr.mk.injEq, and_true] at e
    obtain ⟨rfl, rfl⟩ := e
    subst ho
    have hps : ps = x.props := by
      unfold findP at hf
      rw [find_idx (fun x : PNode => x.id) hG.nodes hx hxi] at hf
      simpa using hf.symm
    subst hps
    unfold setPropG
    rw [if_pos hn]
    refine ⟨nv, ev, fun b => R b ∨ (w.heap.size ≤ b ∧ b < w5.heap.size), some g, oe, hB, .inl h2, hnB, hR', hon, hoe, ?_, ?_⟩
    · show OwnL _ _ _ _ _ (G.nodes.map fun x => if x.id = o.id then (⟨x.id, x.typ, setP x.props o.name o.v⟩ : PNode) else x) _
      rw [map_idx (fun x : PNode => x.id) (fun x : PNode => (⟨x.id, x.typ, setP x.props o.name o.v⟩ : PNode)) hG.nodes hx hxi]
      refine h7'.setOne hx (by omega) (fun r hr => ?_) (fun _ y r _ _ hr => (hr.mod m5 hRn).sub (fun _ h => .inl h))
      obtain ⟨pv, rfl, -⟩ := hr
      exact ⟨v5, rfl, hpv⟩
    · exact h8'.keep (fun b hb => m5.block b (h8'.lt b hb) (fun e => (h6 b hb).2.2.2.2 (by rw [e]))) (fun y r _ hr => (hr.mod m5 hRn).sub (fun _ h => .inl h))
  · simp only [Value.pointer.injEq, Option.some.injEq, Addr.mk.injEq, and_true] at e
    obtain ⟨rfl, rfl⟩ := e
    subst ho
    have hps : ps = x.props := by
      unfold findP at hf
      rw [find_none (fun x : PNode => x.id) hn, find_idx (fun x : PEdge => x.id) hG.edges hx hxi] at hf
      simpa using hf.symm
    subst hps
    unfold setPropG
    rw [if_neg (by rw [hn]; simp)]
    refine ⟨nv, ev, fun b => R b ∨ (w.heap.size ≤ b ∧ b < w5.heap.size), on, some g, hB, .inl h2, hnB, hR', hon, hoe, ?_, ?_⟩
    · exact h7'.keep (fun b hb => m5.block b (h7'.lt b hb) (fun e => (h5 b hb).2.2.2.2 (by rw [e]))) (fun y r _ hr => (hr.mod m5 hRn).sub (fun _ h => .inl h))
    · show OwnL _ _ _ _ _ (G.edges.map fun x => if x.id = o.id then (⟨x.id, x.typ, x.from_, x.to_, setP x.props o.name o.v⟩ : PEdge) else x) _
      rw [map_idx (fun x : PEdge => x.id) (fun x : PEdge => (⟨x.id, x.typ, x.from_, x.to_, setP x.props o.name o.v⟩ : PEdge)) hG.edges hx hxi]
      refine h8'.setOne hx (by omega) (fun r hr => ?_) (fun _ y r _ _ hr => (hr.mod m5 hRn).sub (fun _ h => .inl h))
      obtain ⟨pv, rfl, -⟩ := hr
      exact ⟨v5, rfl, hpv⟩
  · simp at e

set_option maxRecDepth 100000 in
set_option maxHeartbeats 2000000 in
theorem setProp (S : Nat → Prop) (B : Nat) (G : PGraph) (o : POp) (ps : List PProp) (w : World) (h : GraphOk 98 S w B G) (hG : GInv G) (hf : findP G o.id = some ps) :
    Calls Tryz.prog 80 #[.pointer (some ⟨B, 0, none⟩), o.args] w fun e w' => e = .returned (.int .i64 0) ∧ GraphOk 98 (fun b => S b ∨ w.heap.size ≤ b) w' B (setPropG o G) ∧ Mod S w w' := by
  have HGR := Lib.hid h; have HI := Lib.hid hG; have HF := Lib.hid hf
  have HW := Lib.hid (show ∀ o1, Grow w (w.alloc o1) from fun o1 => (Grow.rfl' w).allocd o1)
  have HOP := Lib.hid (show OpAt (w.alloc (.cells o.cells.toArray 63)) w.heap.size o from heap_alloc_new w _)
  obtain ⟨nv, ev, R, on, oe, h1, h2, h3, h4, h5, h6, h7, h8⟩ := h.parts (by decide) (by decide)
  have H2 := Lib.hid h2; have H3 := Lib.hid h3; have H4 := Lib.hid h4; have H5 := Lib.hid h5; have H6 := Lib.hid h6; have H7 := Lib.hid h7; have H8 := Lib.hid h8; have HB := Lib.hid h1
  have hB : B < w.heap.size := blk_lt h1
  clear h hG hf h1 h2 h3 h4 h5 h6 h7 h8
  go_enter Tryz.func80, Tryz.ntmps80
  go_wp2_with fail
  refine (graphProps S R B G nv ev on oe o.id _ (HGR.out.grow (HW.out _)) HI.out (((HW.out _).heapEq hB).trans HB.out) (H7.out.nodesMod (Mod.of_grow (F := fun _ => False) (HW.out _)) (fun _ _ => id) (fun _ _ => id)) (H8.out.edgesMod (Mod.of_grow (F := fun _ => False) (HW.out _)) (fun _ _ => id) (fun _ _ => id))).mono ?_
  rintro e w2 ⟨pv, rfl, hpa, hg⟩
  have HG2 := Lib.hid ((HW.out _).step hg); have HPA := Lib.hid hpa
  have HOP2 := Lib.hid (HOP.out.grow hg)
  clear hpa hg
  have HRD := Lib.hid (HPA.out.read HI.out (H7.out.nodesMod (Mod.of_grow (F := fun _ => False) HG2.out) (fun _ _ => id) (fun _ _ => id)) (H8.out.edgesMod (Mod.of_grow (F := fun _ => False) HG2.out) (fun _ _ => id) (fun _ _ => id)))
  rcases HRD.out with ⟨hf, rfl⟩ | ⟨g, k, ps', pv', hf, hl8, rfl, hon, hcell, hfz, hp⟩
  · rw [HF.out] at hf; cases hf
  obtain rfl : ps = ps' := by rw [HF.out] at hf; simpa using hf
  clear hf
  have HCELL := Lib.hid hcell; have HPR := Lib.hid hp; have HFZ := Lib.hid hfz
  obtain ⟨pa, pc, rfl⟩ := hp.isSlice
  clear hcell hp hfz hon
  have hcl2 := HCELL.out
  have hlt2 := cell_lt hcl2
  have hfz2 := HFZ.out
  obtain ⟨hltb, -, -, -, -, -, c5, c6, c7, c8, -⟩ := HOP2.out.at
  go_wp2_with fail
  go_region_with (first | (go_at_call 104; refine (valSet R _ ps o.name o.v _ (HPR.out.grow ((Grow.rfl' w2).drewd)) (by omega)).mono ?_; rintro e w5 ⟨v5, rfl, hp5, hg5⟩; have HG5 := Lib.hid hg5; have HP5 := Lib.hid hp5; obtain ⟨a5, k5, rfl⟩ := hp5.isSlice; have hq5 : w5.cell? ⟨g, k, none⟩ = some (.slice pa ps.length pc) := (hg5.cell (p := ⟨g, k, none⟩) hlt2).trans hcl2; have hz5 : w5.frozen? ⟨g, k, none⟩ = false := (World.frozen?_of_block (w := w2.drew) (hg5.heapEq hlt2)).trans hfz2; have hl5 := cell_lt hq5; clear hp5 hg5))
  all_goals
    go_wp2
    go_ret
    exact ⟨rfl, setProp_close HI.out HB.out H2.out H3.out H4.out H5.out H6.out H7.out H8.out HPA.out HF.out (HG2.out.step (((Grow.rfl' w2).drewd).step HG5.out)) (HP5.out.sub (fun b hb => Nat.le_trans HG2.out.size hb))⟩
end Go.Hg

namespace Go.Hg
open Go.RowKit Go.Proofs

/-- a graph behind a pointer, to be read -/
def GraphRd (T : TypeId) (S : Nat → Prop) (w : World) (B : Nat) (G : PGraph) : Prop :=
  ∃ nv ev : Value, w.heap[B]? = some (.cells #[nv, ev, .int .i64 G.next] T (0, 0)) ∧ NodesR S w nv G.nodes ∧ EdgesR S w ev G.edges
theorem GraphOk.rd {T : TypeId} {S : Nat → Prop} {w : World} {B : Nat} {G : PGraph} (h : GraphOk T S w B G) : GraphRd T S w B G := by
  obtain ⟨nv, ev, R, on, oe, h1, h2, h3, h4, h5, h6, h7, h8⟩ := h
  exact ⟨nv, ev, h1, SlR.sub (h7.toSl (S := S) (fun g hg => (h5 g hg).1)) (fun _ h => h) (fun x r _ hR => hR.sub (fun b hb => (h4 b hb).1)), SlR.sub (h8.toSl (S := S) (fun g hg => (h6 g hg).1)) (fun _ h => h) (fun x r _ hR => hR.sub (fun b hb => (h4 b hb).1))⟩
theorem GraphRd.grow {T : TypeId} {S : Nat → Prop} {w w' : World} {B : Nat} {G : PGraph} (h : GraphRd T S w B G) (g : Grow w w') : GraphRd T S w' B G := by
  obtain ⟨nv, ev, h1, h2, h3⟩ := h
  exact ⟨nv, ev, (g.heapEq (blk_lt h1)).trans h1, h2.grow g, h3.grow g⟩
/-- what a walk reads -/
theorem GraphRd.read {T : TypeId} {S : Nat → Prop} {w : World} {B : Nat} {G : PGraph} (h : GraphRd T S w B G) :
    ∃ na nc ea ec, B < w.heap.size ∧ w.cell? ⟨B, 0, none⟩ = some (.slice na G.nodes.length nc) ∧ w.cell? ⟨B, 1, none⟩ = some (.slice ea G.edges.length ec) ∧ w.cell? ⟨B, 2, none⟩ = some (.int .i64 G.next) ∧
      NodesR S w (.slice na G.nodes.length nc) G.nodes ∧ EdgesR S w (.slice ea G.edges.length ec) G.edges := by
  obtain ⟨nv, ev, h1, hn, he⟩ := h
  obtain ⟨na, nc, rfl, _⟩ := SlR.open hn
  obtain ⟨ea, ec, rfl, _⟩ := SlR.open he
  exact ⟨na, nc, ea, ec, blk_lt h1, by rw [blk_cell h1]; rfl, by rw [blk_cell h1]; rfl, by rw [blk_cell h1]; rfl, hn, he⟩

theorem OwnL.zip {α : Type} {w : World} {E : TypeId} {sz : Nat} {R : α → List Value → Prop} {v : Value} {l : List α} {ob : Option Nat} (R' : Nat → α → List Value → Prop) (h : OwnL w E sz R v l ob) (hR : ∀ (j : Nat) x r, l[j]? = some x → R x r → R' j x r) :
    OwnL w E sz (fun p r => R' p.2 p.1 r) v l.zipIdx ob := by
  obtain ⟨rows, h1, h2, h3⟩ := h
  refine ⟨rows, by simp [h1], fun k x r hk hr => ?_, by simpa using h3⟩
  rw [List.getElem?_zipIdx] at hk
  cases hl : l[k]? with
  | none => rw [hl] at hk; simp at hk
  | some y =>
    rw [hl] at hk
    simp only [Option.map_some, Option.some.injEq, Nat.zero_add] at hk
    subst hk
    exact ⟨hR k y r hl (h2 k y r hl hr).1, (h2 k y r hl hr).2⟩
theorem OwnL.unzip {α : Type} {w : World} {E : TypeId} {sz : Nat} {R : α → List Value → Prop} {v : Value} {l : List α} {ob : Option Nat} {R' : Nat → α → List Value → Prop} (h : OwnL w E sz (fun p r => R' p.2 p.1 r) v l.zipIdx ob) (hR : ∀ (j : Nat) x r, l[j]? = some x → R' j x r → R x r) :
    OwnL w E sz R v l ob := by
  obtain ⟨rows, h1, h2, h3⟩ := h
  refine ⟨rows, by simpa using h1, fun k x r hk hr => ?_, by simpa using h3⟩
  have := h2 k (x, k) r (by rw [List.getElem?_zipIdx, hk]; simp) hr
  exact ⟨hR k x r hk this.1, this.2⟩

set_option maxHeartbeats 400000 in
theorem graphNodeR (S : Nat → Prop) (B : Nat) (G : PGraph) (id : Int) (w : World) (h : GraphRd 98 S w B G) (hs : (G.nodes.map (·.id)).Pairwise (· < ·)) (hb : G.nodes.length ≤ 1099511627776) :
    Calls Tryz.prog 93 #[.pointer (some ⟨B, 0, none⟩), .int .i64 id] w (BsPost (G.nodes.map (·.id)) id w) := by
  obtain ⟨na, nc, ea, ec, hB, c0, c1, c2, hn, -⟩ := h.read
  clear h
  have HN := Lib.hid hn; have HS := Lib.hid hs; have HI := Lib.hid hb; clear hn hs hb
  go_enter Tryz.func93, Tryz.ntmps93
  go_wp2_with fail
  refine (bsNodes S _ G.nodes id _ HN.out HS.out HI.out).mono ?_
  rintro e w2 ⟨i, b, rfl, hb, hg⟩
  have HB := Lib.hid hb; clear hb
  go_wp2
  go_ret2
  exact BsPost.mk i b rfl HB.out hg

set_option maxRecDepth 100000 in
set_option maxHeartbeats 2000000 in
theorem graphNodes (S : Nat → Prop) (B : Nat) (G : PGraph) (w : World) (h : GraphRd 98 S w B G) (hb : G.nodes.length ≤ 1099511627776) (hp : ∀ x ∈ G.nodes, x.props.length ≤ 1099511627776) :
    Calls Tryz.prog 20 #[.pointer (some ⟨B, 0, none⟩)] w fun e w' => ∃ v ob, e = .returned v ∧ OwnL w' 52 3 (RNode (fun b => w.heap.size ≤ b ∧ ob ≠ some b) w') v G.nodes ob ∧ (∀ g, ob = some g → w.heap.size ≤ g) ∧ Grow w w' := by
  obtain ⟨na, nc, ea, ec, hB, c0, c1, c2, hn, -⟩ := h.read
  clear h
  have hn2 : SlR S w 3 (RNode (fun b => S b ∧ b < w.heap.size) w) (.slice na G.nodes.length nc) G.nodes := SlR.sub hn (fun _ h => h) (fun x r _ hR => by obtain ⟨pv, hr, hp⟩ := hR; exact ⟨pv, hr, hp.cut⟩)
  have hn3 : NodesR (fun b => S b ∧ b < w.heap.size) w (.slice na G.nodes.length nc) G.nodes := by
    obtain ⟨a, cap, rows, hv, hl, hc, hr, hR1, h⟩ := hn2
    refine ⟨a, cap, rows, hv, hl, hc, hr, hR1, fun h0 => ?_⟩
    obtain ⟨b, off, ha, hS, hb, hcell⟩ := h h0
    exact ⟨b, off, ha, ⟨hS, hb⟩, hb, hcell⟩
  have HN := Lib.hid hn3; have HBD := Lib.hid hb; have HPL := Lib.hid hp
  clear hn hn2 hn3 hb hp
  go_enter Tryz.func20, Tryz.ntmps20
  go_wp2_with fail
  refine (cloneNode _ _ G.nodes _ HN.out HBD.out).mono ?_
  rintro e w2 ⟨v2, ob, rfl, hown, hg, hob⟩
  have HG2 := Lib.hid hg; have HOB := Lib.hid hob
  have HOL := Lib.hid (show ∀ g, ob = some g → g < w2.heap.size from hown.lt)
  have HZ := Lib.hid (hown.zip (fun j x r => if j < 0 then RNode (fun b => w2.heap.size ≤ b) w2 x r else RNode (fun b => S b ∧ b < w.heap.size) w2 x r) (fun j x r _ h => by rw [if_neg (by omega)]; exact h))
  obtain ⟨oa, cap, hv⟩ : ∃ oa cap, v2 = .slice oa G.nodes.length cap := by obtain ⟨_, _, _, h⟩ := hown; obtain ⟨oa, cap, h, _⟩ := h.isSlice; exact ⟨oa, cap, h⟩
  subst hv
  generalize hll : G.nodes = l at *
  have HLL := Lib.hid hll
  have HPL2 : Hid (∀ x ∈ l, x.props.length ≤ 1099511627776) := HPL
  have HBD2 : Hid (l.length ≤ 1099511627776) := HBD
  have hb62 : l.length ≤ 2 ^ 62 := by have := HBD2.out; omega
  clear hown hg hob HPL HBD HN c0 c1 c2 hll
  go_wp2
  go_loopg [14] l.length (fun gg i wr => ∃ k : Nat, k ≤ l.length ∧ gg = l.length - k ∧ i = .int .i64 k ∧
    OwnL wr 52 3 (fun p r => if p.2 < k then RNode (fun b => w2.heap.size ≤ b) wr p.1 r else RNode (fun b => S b ∧ b < w.heap.size) wr p.1 r) (.slice oa l.length cap) l.zipIdx ob ∧ Mod (fun b => ob = some b) w2 wr)
  case atStart => exact ⟨0, by omega, by omega, rfl, HZ.out, Mod.rfl' _ _⟩
  case round =>
    obtain ⟨k, hk, rfl, rfl, hcur, hmod⟩ := hrel
    have HCUR := Lib.hid hcur; have HMOD := Lib.hid hmod
    by_cases hkl : k < l.length
    · obtain ⟨g, cap', hv, ho⟩ := hcur.sliceAt (i := k) (by simpa using hkl)
      simp only [Value.slice.injEq, List.length_zipIdx, true_and] at hv
      obtain ⟨rfl, rfl⟩ := hv
      subst ho
      have hx : l.zipIdx[k]? = some (l[k], k) := by rw [List.getElem?_zipIdx, List.getElem?_eq_getElem hkl]; simp
      obtain ⟨r, hr, -, hc⟩ := hcur.row hx
      rw [if_neg (by simp)] at hr
      obtain ⟨pv, rfl, hpp⟩ := hr
      have hpl : (l[k]).props.length ≤ 1099511627776 := HPL2.out _ (List.getElem_mem hkl)
      have HX := Lib.hid hx
      have hbw := hcur.lt g rfl
      have a2 : wr.cell? ⟨g, k * 3 + 2, none⟩ = some pv := by have := hc 2 pv rfl; rwa [Nat.zero_add] at this
      have HPP := Lib.hid hpp; have HPLK := Lib.hid hpl
      obtain ⟨pa, pc, rfl⟩ := hpp.isSlice
      clear hc hpp hcur hmod hpl hx
      generalize l[k] = x at *
      go_wp2_with fail
      refine (cloneProp _ _ x.props _ HPP.out HPLK.out).mono ?_
      rintro e w4 ⟨v4, ob4, rfl, hown4, hg4, hob4⟩
      have hk4 := HCUR.out.keep (R' := fun p r => if p.2 < k then RNode (fun b => w2.heap.size ≤ b) w4 p.1 r else RNode (fun b => S b ∧ b < w.heap.size) w4 p.1 r) (w' := w4) (fun g hg => hg4.heapEq (HCUR.out.lt g hg)) (fun p r _ hR => by
        by_cases hq : p.2 < k
        · rw [if_pos hq] at hR ⊢
          exact hR.mod (Mod.of_grow (F := fun _ => False) hg4) (fun _ _ => id)
        · rw [if_neg hq] at hR ⊢
          exact hR.mod (Mod.of_grow (F := fun _ => False) hg4) (fun _ _ => id))
      have hsl := hk4.slot (i := k) (t := 2) (by simpa using hkl) (by omega)
      obtain ⟨⟨u4, q4⟩, f4⟩ := hsl
      obtain ⟨a4, k4, rfl⟩ : ∃ a c, v4 = .slice a x.props.length c := by obtain ⟨_, _, _, h⟩ := hown4; obtain ⟨oa, cap, h, _⟩ := h.isSlice; exact ⟨oa, cap, h⟩
      have HK4 := Lib.hid hk4; have HP4 := Lib.hid (show PropsR (fun b => w2.heap.size ≤ b) w4 _ x.props from (hown4.toSl (S := fun b => w2.heap.size ≤ b) (fun g hg => Nat.le_trans HMOD.out.size (hob4 g hg))))
      have HG4 := Lib.hid hg4
      clear hk4 hown4 hob4 hg4
      go_wp2_with fail
      go_roundg (l.length - (k + 1))
      case measure => omega
      case rel =>
        have hgl := HOL.out g rfl
        have hgo := HOB.out g rfl
        have m5 : Mod (fun b => b = g) w4 (w4.setCell ⟨g, k * 3 + 2, none⟩ (.slice a4 x.props.length k4)) := (Mod.rfl' (fun b => b = g) w4).setd (p := ⟨g, k * 3 + 2, none⟩) (.inl rfl) _
        refine ⟨k + 1, by omega, rfl, by go_num, ?_, (HMOD.out.step (Mod.of_grow HG4.out)).step (m5.mono (fun b e => by rw [e]))⟩
        have hset : l.zipIdx.set k (x, k) = l.zipIdx := by
          have := HX.out
          obtain ⟨h1, h2⟩ := List.getElem?_eq_some_iff.1 this
          rw [← h2, List.set_getElem_self]
        have hN : ∀ b, w2.heap.size ≤ b → ¬ (b = g) := fun b hb e => by omega
        have hSS : ∀ b, (S b ∧ b < w.heap.size) → ¬ (b = g) := fun b hb e => by omega
        have h5 := HK4.out.setOne (R' := fun p r => if p.2 < k + 1 then RNode (fun b => w2.heap.size ≤ b) (w4.setCell ⟨g, k * 3 + 2, none⟩ (.slice a4 x.props.length k4)) p.1 r else RNode (fun b => S b ∧ b < w.heap.size) (w4.setCell ⟨g, k * 3 + 2, none⟩ (.slice a4 x.props.length k4)) p.1 r)
          (t := 2) (x' := (x, k)) (u := .slice a4 x.props.length k4) HX.out (by omega) (fun r hr => by
            rw [if_neg (by simp)] at hr
            rw [if_pos (by simp)]
            obtain ⟨pv, rfl, -⟩ := hr
            exact ⟨_, rfl, HP4.out.mod m5 hN⟩) (fun j y r hjk hj hr => by
            rw [List.getElem?_zipIdx] at hj
            have hy : y.2 = j := by
              cases hl : l[j]? with
              | none => rw [hl] at hj; simp at hj
              | some z => rw [hl] at hj; simp only [Option.map_some, Option.some.injEq, Nat.zero_add] at hj; rw [← hj]
            rw [hy] at hr ⊢
            by_cases hjk2 : j < k
            · rw [if_pos hjk2] at hr
              rw [if_pos (by omega)]
              exact hr.mod m5 hN
            · rw [if_neg hjk2] at hr
              rw [if_neg (by omega)]
              exact hr.mod m5 hSS)
        rw [hset] at h5
        exact h5
    · have hkn : k = l.length := by omega
      subst hkn
      go_wp2
      go_ret
      refine ⟨.slice oa l.length cap, ob, rfl, ?_, HOB.out, HG2.out.modd HMOD.out (fun b hb => HOB.out b hb)⟩
      rw [HLL.out]
      refine HCUR.out.unzip (R' := fun j x r => if j < l.length then RNode (fun b => w2.heap.size ≤ b) wr x r else RNode (fun b => S b ∧ b < w.heap.size) wr x r) (fun j x r hj hR => ?_)
      rw [if_pos (List.getElem?_eq_some_iff.1 hj).1] at hR
      exact hR.sub (fun b hb => ⟨Nat.le_trans HG2.out.size hb, fun e => by have := HOL.out b e; omega⟩)

set_option maxHeartbeats 400000 in
theorem graphEdgeR (S : Nat → Prop) (B : Nat) (G : PGraph) (id : Int) (w : World) (h : GraphRd 98 S w B G) (hs : (G.edges.map (·.id)).Pairwise (· < ·)) (hb : G.edges.length ≤ 1099511627776) :
    Calls Tryz.prog 40 #[.pointer (some ⟨B, 0, none⟩), .int .i64 id] w (BsPost (G.edges.map (·.id)) id w) := by
  obtain ⟨na, nc, ea, ec, hB, c0, c1, c2, -, hn⟩ := h.read
  clear h
  have HN := Lib.hid hn; have HS := Lib.hid hs; have HI := Lib.hid hb; clear hn hs hb
  go_enter Tryz.func40, Tryz.ntmps40
  go_wp2_with fail
  refine (bsEdges S _ G.edges id _ HN.out HS.out HI.out).mono ?_
  rintro e w2 ⟨i, b, rfl, hb, hg⟩
  have HB := Lib.hid hb; clear hb
  go_wp2
  go_ret2
  exact BsPost.mk i b rfl HB.out hg

set_option maxRecDepth 100000 in
set_option maxHeartbeats 2000000 in
theorem graphEdges (S : Nat → Prop) (B : Nat) (G : PGraph) (w : World) (h : GraphRd 98 S w B G) (hb : G.edges.length ≤ 1099511627776) (hp : ∀ x ∈ G.edges, x.props.length ≤ 1099511627776) :
    Calls Tryz.prog 21 #[.pointer (some ⟨B, 0, none⟩)] w fun e w' => ∃ v ob, e = .returned v ∧ OwnL w' 41 5 (REdge (fun b => w.heap.size ≤ b ∧ ob ≠ some b) w') v G.edges ob ∧ (∀ g, ob = some g → w.heap.size ≤ g) ∧ Grow w w' := by
  obtain ⟨na, nc, ea, ec, hB, c0, c1, c2, -, hn⟩ := h.read
  clear h
  have hn2 : SlR S w 5 (REdge (fun b => S b ∧ b < w.heap.size) w) (.slice ea G.edges.length ec) G.edges := SlR.sub hn (fun _ h => h) (fun x r _ hR => by obtain ⟨pv, hr, hp⟩ := hR; exact ⟨pv, hr, hp.cut⟩)
  have hn3 : EdgesR (fun b => S b ∧ b < w.heap.size) w (.slice ea G.edges.length ec) G.edges := by
    obtain ⟨a, cap, rows, hv, hl, hc, hr, hR1, h⟩ := hn2
    refine ⟨a, cap, rows, hv, hl, hc, hr, hR1, fun h0 => ?_⟩
    obtain ⟨b, off, ha, hS, hb, hcell⟩ := h h0
    exact ⟨b, off, ha, ⟨hS, hb⟩, hb, hcell⟩
  have HN := Lib.hid hn3; have HBD := Lib.hid hb; have HPL := Lib.hid hp
  clear hn hn2 hn3 hb hp
  go_enter Tryz.func21, Tryz.ntmps21
  go_wp2_with fail
  refine (cloneEdge _ _ G.edges _ HN.out HBD.out).mono ?_
  rintro e w2 ⟨v2, ob, rfl, hown, hg, hob⟩
  have HG2 := Lib.hid hg; have HOB := Lib.hid hob
  have HOL := Lib.hid (show ∀ g, ob = some g → g < w2.heap.size from hown.lt)
  have HZ := Lib.hid (hown.zip (fun j x r => if j < 0 then REdge (fun b => w2.heap.size ≤ b) w2 x r else REdge (fun b => S b ∧ b < w.heap.size) w2 x r) (fun j x r _ h => by rw [if_neg (by omega)]; exact h))
  obtain ⟨oa, cap, hv⟩ : ∃ oa cap, v2 = .slice oa G.edges.length cap := by obtain ⟨_, _, _, h⟩ := hown; obtain ⟨oa, cap, h, _⟩ := h.isSlice; exact ⟨oa, cap, h⟩
  subst hv
  generalize hll : G.edges = l at *
  have HLL := Lib.hid hll
  have HPL2 : Hid (∀ x ∈ l, x.props.length ≤ 1099511627776) := HPL
  have HBD2 : Hid (l.length ≤ 1099511627776) := HBD
  have hb62 : l.length ≤ 2 ^ 62 := by have := HBD2.out; omega
  clear hown hg hob HPL HBD HN c0 c1 c2 hll
  go_wp2
  go_loopg [14] l.length (fun gg i wr => ∃ k : Nat, k ≤ l.length ∧ gg = l.length - k ∧ i = .int .i64 k ∧
    OwnL wr 41 5 (fun p r => if p.2 < k then REdge (fun b => w2.heap.size ≤ b) wr p.1 r else REdge (fun b => S b ∧ b < w.heap.size) wr p.1 r) (.slice oa l.length cap) l.zipIdx ob ∧ Mod (fun b => ob = some b) w2 wr)
  case atStart => exact ⟨0, by omega, by omega, rfl, HZ.out, Mod.rfl' _ _⟩
  case round =>
    obtain ⟨k, hk, rfl, rfl, hcur, hmod⟩ := hrel
    have HCUR := Lib.hid hcur; have HMOD := Lib.hid hmod
    by_cases hkl : k < l.length
    · obtain ⟨g, cap', hv, ho⟩ := hcur.sliceAt (i := k) (by simpa using hkl)
      simp only [Value.slice.injEq, List.length_zipIdx, true_and] at hv
      obtain ⟨rfl, rfl⟩ := hv
      subst ho
      have hx : l.zipIdx[k]? = some (l[k], k) := by rw [List.getElem?_zipIdx, List.getElem?_eq_getElem hkl]; simp
      obtain ⟨r, hr, -, hc⟩ := hcur.row hx
      rw [if_neg (by simp)] at hr
      obtain ⟨pv, rfl, hpp⟩ := hr
      have hpl : (l[k]).props.length ≤ 1099511627776 := HPL2.out _ (List.getElem_mem hkl)
      have HX := Lib.hid hx
      have hbw := hcur.lt g rfl
      have a2 : wr.cell? ⟨g, k * 5 + 4, none⟩ = some pv := by have := hc 4 pv rfl; rwa [Nat.zero_add] at this
      have HPP := Lib.hid hpp; have HPLK := Lib.hid hpl
      obtain ⟨pa, pc, rfl⟩ := hpp.isSlice
      clear hc hpp hcur hmod hpl hx
      generalize l[k] = x at *
      go_wp2_with fail
      refine (cloneProp _ _ x.props _ HPP.out HPLK.out).mono ?_
      rintro e w4 ⟨v4, ob4, rfl, hown4, hg4, hob4⟩
      have hk4 := HCUR.out.keep (R' := fun p r => if p.2 < k then REdge (fun b => w2.heap.size ≤ b) w4 p.1 r else REdge (fun b => S b ∧ b < w.heap.size) w4 p.1 r) (w' := w4) (fun g hg => hg4.heapEq (HCUR.out.lt g hg)) (fun p r _ hR => by
        by_cases hq : p.2 < k
        · rw [if_pos hq] at hR ⊢
          exact hR.mod (Mod.of_grow (F := fun _ => False) hg4) (fun _ _ => id)
        · rw [if_neg hq] at hR ⊢
          exact hR.mod (Mod.of_grow (F := fun _ => False) hg4) (fun _ _ => id))
      have hsl := hk4.slot (i := k) (t := 4) (by simpa using hkl) (by omega)
      obtain ⟨⟨u4, q4⟩, f4⟩ := hsl
      obtain ⟨a4, k4, rfl⟩ : ∃ a c, v4 = .slice a x.props.length c := by obtain ⟨_, _, _, h⟩ := hown4; obtain ⟨oa, cap, h, _⟩ := h.isSlice; exact ⟨oa, cap, h⟩
      have HK4 := Lib.hid hk4; have HP4 := Lib.hid (show PropsR (fun b => w2.heap.size ≤ b) w4 _ x.props from (hown4.toSl (S := fun b => w2.heap.size ≤ b) (fun g hg => Nat.le_trans HMOD.out.size (hob4 g hg))))
      have HG4 := Lib.hid hg4
      clear hk4 hown4 hob4 hg4
      go_wp2_with fail
      go_roundg (l.length - (k + 1))
      case measure => omega
      case rel =>
        have hgl := HOL.out g rfl
        have hgo := HOB.out g rfl
        have m5 : Mod (fun b => b = g) w4 (w4.setCell ⟨g, k * 5 + 4, none⟩ (.slice a4 x.props.length k4)) := (Mod.rfl' (fun b => b = g) w4).setd (p := ⟨g, k * 5 + 4, none⟩) (.inl rfl) _
        refine ⟨k + 1, by omega, rfl, by go_num, ?_, (HMOD.out.step (Mod.of_grow HG4.out)).step (m5.mono (fun b e => by rw [e]))⟩
        have hset : l.zipIdx.set k (x, k) = l.zipIdx := by
          have := HX.out
          obtain ⟨h1, h2⟩ := List.getElem?_eq_some_iff.1 this
          rw [← h2, List.set_getElem_self]
        have hN : ∀ b, w2.heap.size ≤ b → ¬ (b = g) := fun b hb e => by omega
        have hSS : ∀ b, (S b ∧ b < w.heap.size) → ¬ (b = g) := fun b hb e => by omega
        have h5 := HK4.out.setOne (R' := fun p r => if p.2 < k + 1 then REdge (fun b => w2.heap.size ≤ b) (w4.setCell ⟨g, k * 5 + 4, none⟩ (.slice a4 x.props.length k4)) p.1 r else REdge (fun b => S b ∧ b < w.heap.size) (w4.setCell ⟨g, k * 5 + 4, none⟩ (.slice a4 x.props.length k4)) p.1 r)
          (t := 4) (x' := (x, k)) (u := .slice a4 x.props.length k4) HX.out (by omega) (fun r hr => by
            rw [if_neg (by simp)] at hr
            rw [if_pos (by simp)]
            obtain ⟨pv, rfl, -⟩ := hr
            exact ⟨_, rfl, HP4.out.mod m5 hN⟩) (fun j y r hjk hj hr => by
            rw [List.getElem?_zipIdx] at hj
            have hy : y.2 = j := by
              cases hl : l[j]? with
              | none => rw [hl] at hj; simp at hj
              | some z => rw [hl] at hj; simp only [Option.map_some, Option.some.injEq, Nat.zero_add] at hj; rw [← hj]
            rw [hy] at hr ⊢
            by_cases hjk2 : j < k
            · rw [if_pos hjk2] at hr
              rw [if_pos (by omega)]
              exact hr.mod m5 hN
            · rw [if_neg hjk2] at hr
              rw [if_neg (by omega)]
              exact hr.mod m5 hSS)
        rw [hset] at h5
        exact h5
    · have hkn : k = l.length := by omega
      subst hkn
      go_wp2
      go_ret
      refine ⟨.slice oa l.length cap, ob, rfl, ?_, HOB.out, HG2.out.modd HMOD.out (fun b hb => HOB.out b hb)⟩
      rw [HLL.out]
      refine HCUR.out.unzip (R' := fun j x r => if j < l.length then REdge (fun b => w2.heap.size ≤ b) wr x r else REdge (fun b => S b ∧ b < w.heap.size) wr x r) (fun j x r hj hR => ?_)
      rw [if_pos (List.getElem?_eq_some_iff.1 hj).1] at hR
      exact hR.sub (fun b hb => ⟨Nat.le_trans HG2.out.size hb, fun e => by have := HOL.out b e; omega⟩)
end Go.Hg

namespace Go.Hg
open Go.RowKit Go.Proofs

set_option maxHeartbeats 400000 in
theorem graphNodesNil (w : World) : Calls Tryz.prog 20 #[.pointer none] w fun e w' => e = .returned (.slice none 0 0) ∧ w = w' := by
  go_enter Tryz.func20, Tryz.ntmps20
  go_wp2
  go_ret
  exact ⟨rfl, rfl⟩
/-- what Node tells -/
def NodePost (G : PGraph) (id : Int) (w : World) (e : Ending) (w' : World) : Prop :=
  (((G.nodes.find? fun x => decide (x.id = id)) = none ∧ e = .returned (.tuple #[.agg #[.int .i64 0, .string ByteArray.empty, .slice none 0 0], .bool false])) ∨
   ∃ x pv, (G.nodes.find? fun x => decide (x.id = id)) = some x ∧ e = .returned (.tuple #[.agg #[.int .i64 x.id, .string x.typ, pv], .bool true]) ∧ PropsR (fun b => w.heap.size ≤ b) w' pv x.props) ∧ Grow w w'

set_option maxHeartbeats 400000 in
theorem graphEdgesNil (w : World) : Calls Tryz.prog 21 #[.pointer none] w fun e w' => e = .returned (.slice none 0 0) ∧ w = w' := by
  go_enter Tryz.func21, Tryz.ntmps21
  go_wp2
  go_ret
  exact ⟨rfl, rfl⟩
/-- what Edge tells -/
def EdgePost (G : PGraph) (id : Int) (w : World) (e : Ending) (w' : World) : Prop :=
  (((G.edges.find? fun x => decide (x.id = id)) = none ∧ e = .returned (.tuple #[.agg #[.int .i64 0, .string ByteArray.empty, .int .i64 0, .int .i64 0, .slice none 0 0], .bool false])) ∨
   ∃ x pv, (G.edges.find? fun x => decide (x.id = id)) = some x ∧ e = .returned (.tuple #[.agg #[.int .i64 x.id, .string x.typ, .int .i64 x.from_, .int .i64 x.to_, pv], .bool true]) ∧ PropsR (fun b => w.heap.size ≤ b) w' pv x.props) ∧ Grow w w'

set_option maxRecDepth 100000 in
set_option maxHeartbeats 2000000 in
theorem graphGetEdge (S : Nat → Prop) (B : Nat) (G : PGraph) (id : Int) (w : World) (h : GraphRd 98 S w B G) (hs : (G.edges.map (·.id)).Pairwise (· < ·)) (hb : G.edges.length ≤ 1099511627776) (hp : ∀ x ∈ G.edges, x.props.length ≤ 1099511627776) :
    Calls Tryz.prog 18 #[.pointer (some ⟨B, 0, none⟩), .int .i64 id] w (EdgePost G id w) := by
  have HGR := Lib.hid h; have HS := Lib.hid hs; have HBD := Lib.hid hb; have HPL := Lib.hid hp
  have hB : B < w.heap.size := by obtain ⟨_, _, h, _⟩ := h; exact blk_lt h
  have HW := Lib.hid (show ∀ o1, Grow w (w.alloc o1) from fun o1 => (Grow.rfl' w).allocd o1)
  have HNB := Lib.hid (show ∀ o1 w', Grow (w.alloc o1) w' → w'.heap[w.heap.size]? = some o1 from fun o1 w' hg => by rw [hg.heapEq (by simp)]; exact heap_alloc_new w _)
  clear h hs hb hp
  go_enter Tryz.func18, Tryz.ntmps18
  go_wp2_with fail
  refine (graphEdgeR S B G id _ (HGR.out.grow (HW.out _)) HS.out HBD.out).mono ?_
  rintro e w2 ⟨i, b, rfl, hbs, hg⟩
  have HG2 := Lib.hid ((HW.out _).step hg)
  have hnb := HNB.out _ _ hg
  have hnl := blk_lt hnb
  have z0 : w2.cell? ⟨w.heap.size, 0, none⟩ = some (.int .i64 0) := by rw [blk_cell hnb]; rfl
  have zf0 := blk_free hnb 0
  have z1 : w2.cell? ⟨w.heap.size, 1, none⟩ = some (.string ByteArray.empty) := by rw [blk_cell hnb]; rfl
  have zf1 := blk_free hnb 1
  have z2 : w2.cell? ⟨w.heap.size, 2, none⟩ = some (.int .i64 0) := by rw [blk_cell hnb]; rfl
  have zf2 := blk_free hnb 2
  have z3 : w2.cell? ⟨w.heap.size, 3, none⟩ = some (.int .i64 0) := by rw [blk_cell hnb]; rfl
  have zf3 := blk_free hnb 3
  have z4 : w2.cell? ⟨w.heap.size, 4, none⟩ = some (.slice none 0 0) := by rw [blk_cell hnb]; rfl
  have zf4 := blk_free hnb 4
  have HBS := Lib.hid hbs; have HG02 := Lib.hid hg; have HNB2 := Lib.hid hnb
  clear hbs hg hnb
  cases b
  · have HF := Lib.hid (find_none (fun x : PEdge => x.id) (idx_any (fun x : PEdge => x.id) HBS.out).symm)
    go_wp2
    refine bodyPost_ret (v := .tuple #[.agg #[.int .i64 0, .string ByteArray.empty, .int .i64 0, .int .i64 0, .slice none 0 0], .bool false]) ?_ rfl ⟨.inl ⟨HF.out, rfl⟩, ?_⟩
    · rw [results_cell_tmp rfl]
      go_simp
      rfl
    · exact (((((HG2.out).setd (p := ⟨w.heap.size, 0, none⟩) (Nat.le_refl _) _).setd (p := ⟨w.heap.size, 1, none⟩) (Nat.le_refl _) _).setd (p := ⟨w.heap.size, 2, none⟩) (Nat.le_refl _) _).setd (p := ⟨w.heap.size, 3, none⟩) (Nat.le_refl _) _).setd (p := ⟨w.heap.size, 4, none⟩) (Nat.le_refl _) _
  · obtain ⟨x, hx, hxi⟩ := idx_at (fun x : PEdge => x.id) HBS.out
    have hil : i < G.edges.length := (List.getElem?_eq_some_iff.1 hx).1
    have HF := Lib.hid (find_idx (fun x : PEdge => x.id) HS.out hx hxi)
    have hpl := HPL.out x (List.mem_of_getElem? hx)
    have HPX := Lib.hid hpl
    obtain ⟨na, nc, ea, ec, hB2, g0, g1, g2, hn, he⟩ := (HGR.out.grow HG2.out).read
    obtain ⟨_, _, hv, hle, hcm, hA⟩ := SlR.open he
    simp only [Value.slice.injEq, true_and] at hv
    obtain ⟨rfl, rfl⟩ := hv
    obtain ⟨ba, oa, ra, rfl, hSa, hba, hRa, hca⟩ := hA i x hx
    obtain ⟨pva, hba', a0, a1, a2, a3, a4, hpa⟩ := hRa.at hba (Grow.rfl' w2) hca
    have HPA := Lib.hid hpa
    obtain ⟨pa, pc, rfl⟩ := hpa.isSlice
    unfold maxLen at hcm
    clear hca hRa hSa hba hA hn he hpa hpl hx hxi
    go_wp2_with fail
    refine (cloneProp _ _ x.props _ (HPA.out.grow ((Grow.rfl' w2).allocd _)) HPX.out).mono ?_
    rintro e w3 ⟨v3, ob3, rfl, hown, hg, hob⟩
    obtain ⟨a3, c3, rfl⟩ : ∃ a c, v3 = .slice a x.props.length c := by obtain ⟨_, _, _, h⟩ := hown; obtain ⟨oa, cap, h, _⟩ := h.isSlice; exact ⟨oa, cap, h⟩
    have hb3 : w3.heap[w2.heap.size]? = some (.cells #[.int .i64 x.id, .string x.typ, .int .i64 x.from_, .int .i64 x.to_, .slice pa x.props.length pc] 41 (0, 0)) := by rw [hg.heapEq (by simp)]; exact heap_alloc_new w2 _
    have hl3 := blk_lt hb3
    have y0 : w3.cell? ⟨w2.heap.size, 0, none⟩ = some (.int .i64 x.id) := by rw [blk_cell hb3]; rfl
    have yf0 := blk_free hb3 0
    have y1 : w3.cell? ⟨w2.heap.size, 1, none⟩ = some (.string x.typ) := by rw [blk_cell hb3]; rfl
    have yf1 := blk_free hb3 1
    have y2 : w3.cell? ⟨w2.heap.size, 2, none⟩ = some (.int .i64 x.from_) := by rw [blk_cell hb3]; rfl
    have yf2 := blk_free hb3 2
    have y3 : w3.cell? ⟨w2.heap.size, 3, none⟩ = some (.int .i64 x.to_) := by rw [blk_cell hb3]; rfl
    have yf3 := blk_free hb3 3
    have y4 : w3.cell? ⟨w2.heap.size, 4, none⟩ = some (.slice pa x.props.length pc) := by rw [blk_cell hb3]; rfl
    have yf4 := blk_free hb3 4
    have hr3 := HNB.out _ w3 ((HG02.out.allocd _).step hg)
    have hlr := blk_lt hr3
    have x0 : w3.cell? ⟨w.heap.size, 0, none⟩ = some (.int .i64 0) := by rw [blk_cell hr3]; rfl
    have xf0 := blk_free hr3 0
    have x1 : w3.cell? ⟨w.heap.size, 1, none⟩ = some (.string ByteArray.empty) := by rw [blk_cell hr3]; rfl
    have xf1 := blk_free hr3 1
    have x2 : w3.cell? ⟨w.heap.size, 2, none⟩ = some (.int .i64 0) := by rw [blk_cell hr3]; rfl
    have xf2 := blk_free hr3 2
    have x3 : w3.cell? ⟨w.heap.size, 3, none⟩ = some (.int .i64 0) := by rw [blk_cell hr3]; rfl
    have xf3 := blk_free hr3 3
    have x4 : w3.cell? ⟨w.heap.size, 4, none⟩ = some (.slice none 0 0) := by rw [blk_cell hr3]; rfl
    have xf4 := blk_free hr3 4
    have HG3 := Lib.hid ((HG2.out.allocd _).step hg)
    have HP3 := Lib.hid (show PropsR (fun b => w2.heap.size + 1 ≤ b) w3 (.slice a3 x.props.length c3) x.props from hown.toSl (S := fun b => w2.heap.size + 1 ≤ b) (fun g hgg => by have := hob g hgg; simpa using this))
    have HS2 := Lib.hid HG2.out.size
    clear hown hg hob hb3 hr3
    go_wp2
    refine bodyPost_ret (v := .tuple #[.agg #[.int .i64 x.id, .string x.typ, .int .i64 x.from_, .int .i64 x.to_, .slice a3 x.props.length c3], .bool true]) ?_ rfl ⟨.inr ⟨x, _, HF.out, rfl, ?_⟩, ?_⟩
    · rw [results_cell_tmp rfl]
      go_simp
    · refine (HP3.out.mod (F := fun b => b = w.heap.size ∨ b = w2.heap.size) (((((((Mod.rfl' _ w3).setd (p := ⟨w2.heap.size, 4, none⟩) (.inl (.inr rfl)) _).setd (p := ⟨w.heap.size, 0, none⟩) (.inl (.inl rfl)) _).setd (p := ⟨w.heap.size, 1, none⟩) (.inl (.inl rfl)) _).setd (p := ⟨w.heap.size, 2, none⟩) (.inl (.inl rfl)) _).setd (p := ⟨w.heap.size, 3, none⟩) (.inl (.inl rfl)) _).setd (p := ⟨w.heap.size, 4, none⟩) (.inl (.inl rfl)) _) (fun b hb h => ?_)).sub (fun b hb => ?_)
      · have := HS2.out
        have hx : w.heap.size < w2.heap.size := hnl
        rcases h with h | h <;> omega
      · have := HS2.out
        omega
    · have h2 := HS2.out
      exact (((((HG3.out.setd (p := ⟨w2.heap.size, 4, none⟩) h2 _).setd (p := ⟨w.heap.size, 0, none⟩) (Nat.le_refl _) _).setd (p := ⟨w.heap.size, 1, none⟩) (Nat.le_refl _) _).setd (p := ⟨w.heap.size, 2, none⟩) (Nat.le_refl _) _).setd (p := ⟨w.heap.size, 3, none⟩) (Nat.le_refl _) _).setd (p := ⟨w.heap.size, 4, none⟩) (Nat.le_refl _) _
end Go.Hg

namespace Go.Hg
open Go.RowKit Go.Proofs

theorem infoInt : (Tryz.prog.info? 2).map (fun i => (i.zero, i.size, i.bytes)) = some (some (.int .i64 0), 1, 8) := by kernel_rfl
/-- a row of numbers that is one's own -/
def IdsO (w : World) (v : Value) (l : List Int) (ob : Option Nat) : Prop := OwnS w 2 1 v l.length (l.map (.int .i64 ·)) ob
abbrev IdsR (S : Nat → Prop) (w : World) (v : Value) (l : List Int) : Prop := SlR S w 1 (fun n r => r = [Value.int .i64 n]) v l
theorem IdsO.toR {w : World} {v : Value} {l : List Int} {ob : Option Nat} (h : IdsO w v l ob) {S : Nat → Prop} (hS : ∀ g, ob = some g → S g) : IdsR S w v l := by
  have h2 : OwnL w 2 1 (fun n r => r = [Value.int .i64 n]) v l ob := ⟨l.map (fun n => [.int .i64 n]), by simp, fun k x r hx hr => by
    rw [List.getElem?_map, hx] at hr
    simp only [Option.map_some, Option.some.injEq] at hr
    subst hr
    exact ⟨rfl, rfl⟩, by
    have e : (l.map fun n => [Value.int .i64 n]).flatten = l.map (.int .i64 ·) := by
      clear h hS
      induction l with
      | nil => rfl
      | cons a t ih => simp [ih]
    rw [e]; exact h⟩
  exact h2.toSl hS
theorem empty_beq (s : ByteArray) : (s.toList == ([] : List UInt8)) = decide (s = ByteArray.empty) := by
  rw [← isEmpty_iff]
  cases s.toList <;> rfl
theorem one1 (a : Value) (ha : a.oneCell' = true) : ∀ u ∈ [a], u.oneCell' = true := by
  intro u hu; simp only [List.mem_cons, List.not_mem_nil, or_false] at hu; subst hu; exact ha
/-- what a list of Ids is told as -/
def IdsPost (l : List Int) (w : World) (e : Ending) (w' : World) : Prop := ∃ v ob, e = .returned v ∧ IdsO w' v l ob ∧ (∀ b, ob = some b → w.heap.size ≤ b) ∧ Grow w w'

def scanG (G : PGraph) (typ : ByteArray) : List Int := (G.nodes.filter fun x => decide (x.typ = typ)).map (·.id)
def someE (l : List PEdge) (typ : ByteArray) (p : PEdge → Bool) : List Int := (l.filter fun x => (decide (typ = ByteArray.empty) || decide (x.typ = typ)) && p x).map (·.id)

set_option maxRecDepth 100000 in
set_option maxHeartbeats 2000000 in
theorem graphSome (S : Nat → Prop) (B : Nat) (G : PGraph) (typ : ByteArray) (f : Nat) (cl : Addr) (p : PEdge → Bool) (w : World) (h : GraphRd 98 S w B G) (hb : G.edges.length ≤ 1099511627776) (hp : AsksE f cl p S w) :
    Calls Tryz.prog 65 #[.pointer (some ⟨B, 0, none⟩), .string typ, .func (.func f) #[] #[.pointer (some cl)]] w (IdsPost (someE G.edges typ p) w) := by
  obtain ⟨na, nc, ea, ec, hB, c0, c1, c2, -, hn⟩ := h.read
  obtain ⟨iP, hiP, hzP0, hzP1, hzP2⟩ := info_parts infoInt
  obtain ⟨_, _, hv, hal, hac, hA⟩ := SlR.open hn
  simp only [Value.slice.injEq, true_and] at hv
  obtain ⟨rfl, rfl⟩ := hv
  unfold maxLen at hac
  have HA := Lib.hid hA; have HB := Lib.hid hb; have HP := Lib.hid hp.2; have hcf := hp.1
  clear h hn hA hb hp
  unfold someE
  generalize hX : (fun x : PEdge => (decide (typ = ByteArray.empty) || decide (x.typ = typ)) && p x) = sel at *
  have HX := Lib.hid (congrFun hX)
  clear hX
  generalize G.edges = l at *
  go_enter Tryz.func65, Tryz.ntmps65
  go_wp2
  go_loopg [7, 17] l.length (fun g vo i wr => ∃ (k : Nat) (ob : Option Nat), k ≤ l.length ∧ g = l.length - k ∧ i = .int .i64 k ∧ IdsO wr vo (((l.take k).filter sel).map (·.id)) ob ∧ (∀ b, ob = some b → w.heap.size ≤ b) ∧ Grow w wr)
  case atStart => exact ⟨0, none, by omega, by omega, rfl, OwnS.nil _ _ _, by simp, Grow.rfl' w⟩
  case round =>
    obtain ⟨k, ob, hk, rfl, rfl, hown, hob, hgr⟩ := hrel
    have HOWN := Lib.hid hown; have HOB := Lib.hid hob; have HGR := Lib.hid hgr
    obtain ⟨oo, co, rfl, -, -⟩ := hown.isSlice
    by_cases hkl : k < l.length
    · obtain ⟨ba, oa, ra, rfl, hSa, hba, hRa, hca⟩ := HA.out k l[k] (List.getElem?_eq_getElem hkl)
      obtain ⟨pva, hba', a0, a1, a2, a3, a4, hpa⟩ := hRa.at hba hgr hca
      have HPA := Lib.hid hpa
      obtain ⟨pa, pc, rfl⟩ := hpa.isSlice
      clear hca hRa hSa hba hgr hown hob hpa
      have HT := Lib.hid (show l.take (k + 1) = l.take k ++ [l[k]] from List.take_succ_eq_append_getElem hkl)
      have HFL := Lib.hid (show ((l.take k).filter sel).length ≤ l.length from Nat.le_trans (List.length_filter_le _ _) (List.length_take_le' k l))
      have HXK := Lib.hid (HX.out l[k])
      generalize l[k] = x at *
      generalize hfl : ((l.take k).filter sel).map (·.id) = fl at *
      have hfll : ((l.take k).filter sel).length = fl.length := by rw [← hfl, List.length_map]
      rw [hfll] at HFL
      have HFF := Lib.hid hfl
      clear hfl hfll
      have HW := Lib.hid (show ∀ o1, Grow wr (wr.alloc o1) from fun o1 => (Grow.rfl' wr).allocd o1)
      have HNO := Lib.hid (show sel x = false → ((l.take (k + 1)).filter sel).map (·.id) = fl from fun hn => by rw [HT.out, List.filter_append, ← HFF.out]; simp [hn])
      have HYES := Lib.hid (show sel x = true → ((l.take (k + 1)).filter sel).map (·.id) = fl ++ [x.id] from fun hn => by rw [HT.out, List.filter_append, ← HFF.out]; simp [hn])
      cases ht : decide (typ = ByteArray.empty)
      · have HTF := Lib.hid ht
        have hte : (typ.toList == ([] : List UInt8)) = false := (empty_beq typ).trans ht
        clear ht
        cases hxt : decide (x.typ = typ)
        · have HF1 := Lib.hid (HNO.out (by rw [← HXK.out, HTF.out, hxt]; rfl))
          go_wp2_with fail
          go_roundg (l.length - (k + 1))
          case measure => omega
          case rel => exact ⟨k + 1, ob, by omega, rfl, by go_num, by rw [HF1.out]; exact HOWN.out.grow (HW.out _), HOB.out, HGR.out.step (HW.out _)⟩
        · have HXT := Lib.hid hxt
          go_wp2_with fail
          refine (HP.out x _ _ (HGR.out.step (HW.out _)) (HPA.out.grow (HW.out _))).mono ?_
          rintro e w3 ⟨rfl, hg3⟩
          have HG3 := Lib.hid ((HW.out _).step hg3)
          have hb3 : w3.heap[wr.heap.size]? = some (.cells #[.int .i64 x.id, .string x.typ, .int .i64 x.from_, .int .i64 x.to_, .slice pa x.props.length pc] 41 (0, 0)) := by rw [hg3.heapEq (by simp)]; exact heap_alloc_new wr _
          have hl3 := blk_lt hb3
          have y0 : w3.cell? ⟨wr.heap.size, 0, none⟩ = some (.int .i64 x.id) := by rw [blk_cell hb3]; rfl
          clear hg3 hb3
          cases hp : p x
          · have HF1 := Lib.hid (HNO.out (by rw [← HXK.out, hp]; simp))
            go_wp2_with fail
            go_roundg (l.length - (k + 1))
            case measure => omega
            case rel => exact ⟨k + 1, ob, by omega, rfl, by go_num, by rw [HF1.out]; exact HOWN.out.grow HG3.out, HOB.out, HGR.out.step HG3.out⟩
          · have HF1 := Lib.hid (HYES.out (by rw [← HXK.out, hp]; simp [HXT.out]))
            have HRD := Lib.hid (Rd.lit w3 #[.int .i64 x.id] 2 1 1 rfl)
            have HG4 := Lib.hid (show ∀ o1, Grow wr (w3.alloc o1) from fun o1 => HG3.out.allocd o1)
            go_wp2_with (at_builtin; go_must (refine wpList_append_S _ rfl (.tmp 34) (.tmp 37) 30 rfl 2 iP _ 1 8 Tryz.underlying30 hiP hzP0 hzP1 hzP2 rfl (by decide) (.slice oo fl.length co) fl.length _ ob rfl (HOWN.out.grow (HG4.out _)) (.slice (some ⟨w3.heap.size, 0, none⟩) 1 1) rfl 1 _ HRD.out (one1 _ rfl) (by have := HB.out; have := HFL.out; unfold maxLen; omega) (by have := HB.out; have := HFL.out; omega) ?_))
            intro v' w5 ob' h1 h2 h3
            have hown5 : IdsO w5 v' (((l.take (k + 1)).filter sel).map (·.id)) ob' := by
              rw [HF1.out]
              unfold IdsO
              rw [List.length_append, List.map_append]
              exact h1
            have hsz := (HGR.out.step HG3.out).size
            have hob5 : ∀ b, ob' = some b → w.heap.size ≤ b := by
              intro b hb
              rcases h3 with h3 | ⟨g, h3, hge⟩
              · exact HOB.out b (by rw [← h3]; exact hb)
              · rw [h3] at hb; cases hb; first | omega | (simp at hge; omega)
            have hg5 : Grow w w5 := (HGR.out.step (HG4.out _)).modd h2 (fun b hb => HOB.out b hb)
            have H5 := Lib.hid hown5; have HO5 := Lib.hid hob5; have HG5 := Lib.hid hg5
            clear h1 h2 h3 hown5 hob5 hg5 hsz
            go_wp2_with fail
            go_roundg (l.length - (k + 1))
            case measure => omega
            case rel => exact ⟨k + 1, ob', by omega, rfl, by go_num, H5.out, HO5.out, HG5.out⟩
      · have HTF := Lib.hid ht
        have hte : (typ.toList == ([] : List UInt8)) = true := (empty_beq typ).trans ht
        clear ht
        go_wp2_with fail
        refine (HP.out x _ _ (HGR.out.step (HW.out _)) (HPA.out.grow (HW.out _))).mono ?_
        rintro e w3 ⟨rfl, hg3⟩
        have HG3 := Lib.hid ((HW.out _).step hg3)
        have hb3 : w3.heap[wr.heap.size]? = some (.cells #[.int .i64 x.id, .string x.typ, .int .i64 x.from_, .int .i64 x.to_, .slice pa x.props.length pc] 41 (0, 0)) := by rw [hg3.heapEq (by simp)]; exact heap_alloc_new wr _
        have hl3 := blk_lt hb3
        have y0 : w3.cell? ⟨wr.heap.size, 0, none⟩ = some (.int .i64 x.id) := by rw [blk_cell hb3]; rfl
        clear hg3 hb3
        cases hp : p x
        · have HF1 := Lib.hid (HNO.out (by rw [← HXK.out, hp]; simp))
          go_wp2_with fail
          go_roundg (l.length - (k + 1))
          case measure => omega
          case rel => exact ⟨k + 1, ob, by omega, rfl, by go_num, by rw [HF1.out]; exact HOWN.out.grow HG3.out, HOB.out, HGR.out.step HG3.out⟩
        · have HF1 := Lib.hid (HYES.out (by rw [← HXK.out, hp]; simp [HTF.out]))
          have HRD := Lib.hid (Rd.lit w3 #[.int .i64 x.id] 2 1 1 rfl)
          have HG4 := Lib.hid (show ∀ o1, Grow wr (w3.alloc o1) from fun o1 => HG3.out.allocd o1)
          go_wp2_with (at_builtin; go_must (refine wpList_append_S _ rfl (.tmp 34) (.tmp 37) 30 rfl 2 iP _ 1 8 Tryz.underlying30 hiP hzP0 hzP1 hzP2 rfl (by decide) (.slice oo fl.length co) fl.length _ ob rfl (HOWN.out.grow (HG4.out _)) (.slice (some ⟨w3.heap.size, 0, none⟩) 1 1) rfl 1 _ HRD.out (one1 _ rfl) (by have := HB.out; have := HFL.out; unfold maxLen; omega) (by have := HB.out; have := HFL.out; omega) ?_))
          intro v' w5 ob' h1 h2 h3
          have hown5 : IdsO w5 v' (((l.take (k + 1)).filter sel).map (·.id)) ob' := by
            rw [HF1.out]
            unfold IdsO
            rw [List.length_append, List.map_append]
            exact h1
          have hsz := (HGR.out.step HG3.out).size
          have hob5 : ∀ b, ob' = some b → w.heap.size ≤ b := by
            intro b hb
            rcases h3 with h3 | ⟨g, h3, hge⟩
            · exact HOB.out b (by rw [← h3]; exact hb)
            · rw [h3] at hb; cases hb; first | omega | (simp at hge; omega)
          have hg5 : Grow w w5 := (HGR.out.step (HG4.out _)).modd h2 (fun b hb => HOB.out b hb)
          have H5 := Lib.hid hown5; have HO5 := Lib.hid hob5; have HG5 := Lib.hid hg5
          clear h1 h2 h3 hown5 hob5 hg5 hsz
          go_wp2_with fail
          go_roundg (l.length - (k + 1))
          case measure => omega
          case rel => exact ⟨k + 1, ob', by omega, rfl, by go_num, H5.out, HO5.out, HG5.out⟩
    · have hkk : l.take k = l := List.take_of_length_le (by omega)
      rw [hkk] at HOWN
      clear hown hob hgr
      simp only [hkk]
      go_wp2
      go_ret
      exact ⟨_, ob, rfl, HOWN.out, HOB.out, HGR.out⟩

set_option maxRecDepth 100000 in
set_option maxHeartbeats 1000000 in
theorem graphOut (S : Nat → Prop) (B : Nat) (G : PGraph) (id : Int) (typ : ByteArray) (w : World) (h : GraphRd 98 S w B G) (hb : G.edges.length ≤ 1099511627776) :
    Calls Tryz.prog 42 #[.pointer (some ⟨B, 0, none⟩), .int .i64 id, .string typ] w (IdsPost (someE G.edges typ fun x => decide (x.from_ = id)) w) := by
  have HGR := Lib.hid h; have HB := Lib.hid hb
  have HC := Lib.hid (show ∀ w', Grow (w.alloc (.cells #[.int .i64 id] 2)) w' → w'.cell? ⟨w.heap.size, 0, none⟩ = some (.int .i64 id) from fun w' hg => by
    have : w'.heap[w.heap.size]? = some (.cells #[.int .i64 id] 2 (0, 0)) := by rw [hg.heapEq (by simp)]; exact heap_alloc_new w _
    rw [blk_cell this]; rfl)
  have HW := Lib.hid (show ∀ o1, Grow w (w.alloc o1) from fun o1 => (Grow.rfl' w).allocd o1)
  clear h hb
  go_enter Tryz.func42, Tryz.ntmps42
  go_wp2_with fail
  refine (graphSome S B G typ 66 ⟨w.heap.size, 0, none⟩ (fun x => decide (x.from_ = id)) _ (HGR.out.grow (HW.out _)) HB.out ⟨fun args w => enterF Tryz.func66 (by kernel_rfl) rfl args w, fun x pv w' hg hp => out1 x pv _ id w' S hp (HC.out w' hg)⟩).mono ?_
  rintro e w2 ⟨v, ob, rfl, ho, hob, hg⟩
  have HO := Lib.hid ho; have HOB := Lib.hid hob; have HG := Lib.hid hg
  obtain ⟨oo, co, rfl, -, -⟩ := ho.isSlice
  clear ho hob hg
  go_wp2
  go_ret
  exact ⟨_, ob, rfl, HO.out, fun b hb => Nat.le_trans (HW.out _).size (HOB.out b hb), (HW.out _).step HG.out⟩
set_option maxRecDepth 100000 in
set_option maxHeartbeats 1000000 in
theorem graphOutNil (id : Int) (typ : ByteArray) (w : World) : Calls Tryz.prog 42 #[.pointer none, .int .i64 id, .string typ] w fun e w' => e = .returned (.slice none 0 0) ∧ Grow w w' := by
  have HW := Lib.hid (show ∀ o1, Grow w (w.alloc o1) from fun o1 => (Grow.rfl' w).allocd o1)
  go_enter Tryz.func42, Tryz.ntmps42
  go_wp2_with (go_at_call 65; go_in)
  go_ret
  exact ⟨rfl, HW.out _⟩

set_option maxRecDepth 100000 in
set_option maxHeartbeats 1000000 in
theorem graphIn (S : Nat → Prop) (B : Nat) (G : PGraph) (id : Int) (typ : ByteArray) (w : World) (h : GraphRd 98 S w B G) (hb : G.edges.length ≤ 1099511627776) :
    Calls Tryz.prog 43 #[.pointer (some ⟨B, 0, none⟩), .int .i64 id, .string typ] w (IdsPost (someE G.edges typ fun x => decide (x.to_ = id)) w) := by
  have HGR := Lib.hid h; have HB := Lib.hid hb
  have HC := Lib.hid (show ∀ w', Grow (w.alloc (.cells #[.int .i64 id] 2)) w' → w'.cell? ⟨w.heap.size, 0, none⟩ = some (.int .i64 id) from fun w' hg => by
    have : w'.heap[w.heap.size]? = some (.cells #[.int .i64 id] 2 (0, 0)) := by rw [hg.heapEq (by simp)]; exact heap_alloc_new w _
    rw [blk_cell this]; rfl)
  have HW := Lib.hid (show ∀ o1, Grow w (w.alloc o1) from fun o1 => (Grow.rfl' w).allocd o1)
  clear h hb
  go_enter Tryz.func43, Tryz.ntmps43
  go_wp2_with fail
  refine (graphSome S B G typ 67 ⟨w.heap.size, 0, none⟩ (fun x => decide (x.to_ = id)) _ (HGR.out.grow (HW.out _)) HB.out ⟨fun args w => enterF Tryz.func67 (by kernel_rfl) rfl args w, fun x pv w' hg hp => in1 x pv _ id w' S hp (HC.out w' hg)⟩).mono ?_
  rintro e w2 ⟨v, ob, rfl, ho, hob, hg⟩
  have HO := Lib.hid ho; have HOB := Lib.hid hob; have HG := Lib.hid hg
  obtain ⟨oo, co, rfl, -, -⟩ := ho.isSlice
  clear ho hob hg
  go_wp2
  go_ret
  exact ⟨_, ob, rfl, HO.out, fun b hb => Nat.le_trans (HW.out _).size (HOB.out b hb), (HW.out _).step HG.out⟩
set_option maxRecDepth 100000 in
set_option maxHeartbeats 1000000 in
theorem graphInNil (id : Int) (typ : ByteArray) (w : World) : Calls Tryz.prog 43 #[.pointer none, .int .i64 id, .string typ] w fun e w' => e = .returned (.slice none 0 0) ∧ Grow w w' := by
  have HW := Lib.hid (show ∀ o1, Grow w (w.alloc o1) from fun o1 => (Grow.rfl' w).allocd o1)
  go_enter Tryz.func43, Tryz.ntmps43
  go_wp2_with (go_at_call 65; go_in)
  go_ret
  exact ⟨rfl, HW.out _⟩

end Go.Hg

namespace Go.Hg
open Go.RowKit Go.Proofs

/-- an edge of a map's rows -/
def REnd (e : PEdge) (r : List Value) : Prop := r = [.int .i64 e.id, .int .i64 e.to_]
def RFrom (e : PEdge) (r : List Value) : Prop := r = [.int .i64 e.from_]
/-- what Edges of a graph tells, from w on -/
def EdgesAt (gv : Value) (E : List PEdge) (w : World) : Prop :=
  ∀ w', Grow w w' → Calls Tryz.prog 21 #[gv] w' fun e w2 => ∃ v, e = .returned v ∧ EdgesR (fun b => w'.heap.size ≤ b) w2 v E ∧ Grow w' w2
theorem EdgesAt.grow {gv : Value} {E : List PEdge} {w w1 : World} (h : EdgesAt gv E w) (g : Grow w w1) : EdgesAt gv E w1 := fun w' g' => h w' (g.step g')
theorem infoEnd : (Tryz.prog.info? 85).map (fun i => (i.zero, i.size, i.bytes)) = some (some (.agg #[.int .i64 0, .int .i64 0]), 2, 16) := by kernel_rfl
theorem zeroEnds (w : World) : (zeroValue 83).run Tryz.prog w = .ok (.slice none 0 0) w := by kernel_rfl
theorem zeroIds (w : World) : (zeroValue 30).run Tryz.prog w = .ok (.slice none 0 0) w := by kernel_rfl
theorem edgeCells {S F : Nat → Prop} {w wr : World} {aa : Option Addr} {ca : Nat} {E : List PEdge} (hv : EdgesR S w (.slice aa E.length ca) E) (hm : Mod F w wr) (hF : ∀ b, S b → ¬ F b) {k : Nat} {x : PEdge} (hk : E[k]? = some x) :
    ∃ ba oa pa pc, aa = some ⟨ba, oa, none⟩ ∧ ba < wr.heap.size ∧ wr.cell? ⟨ba, oa + k * 5, none⟩ = some (.int .i64 x.id) ∧ wr.cell? ⟨ba, oa + k * 5 + 1, none⟩ = some (.string x.typ) ∧ wr.cell? ⟨ba, oa + k * 5 + 2, none⟩ = some (.int .i64 x.from_) ∧
      wr.cell? ⟨ba, oa + k * 5 + 3, none⟩ = some (.int .i64 x.to_) ∧ wr.cell? ⟨ba, oa + k * 5 + 4, none⟩ = some (.slice pa x.props.length pc) := by
  obtain ⟨a', c', hva, -, -, hA⟩ := SlR.open hv
  simp only [Value.slice.injEq, true_and] at hva
  obtain ⟨rfl, rfl⟩ := hva
  obtain ⟨ba, oa, r, rfl, hS, hb, ⟨pv, rfl, hp⟩, hc⟩ := hA k x hk
  obtain ⟨pa, pc, rfl⟩ := hp.isSlice
  have e : ∀ o, wr.cell? ⟨ba, o, none⟩ = w.cell? ⟨ba, o, none⟩ := fun o => World.cell?_of_block (w := w) (hm.block ba hb (hF ba hS))
  refine ⟨ba, oa, pa, pc, rfl, Nat.lt_of_lt_of_le hb hm.size, ?_, ?_, ?_, ?_, ?_⟩ <;> rw [e]
  · exact hc 0 _ rfl
  · exact hc 1 _ rfl
  · exact hc 2 _ rfl
  · exact hc 3 _ rfl
  · exact hc 4 _ rfl
theorem OwnL.push {α : Type} {w' : World} {E : TypeId} {sz : Nat} {R : α → List Value → Prop} {l : List α} {rows : List (List Value)} {y : α} {r : List Value} {v' : Value} {ob' : Option Nat} (h1 : rows.length = l.length)
    (h2 : ∀ (k : Nat) x r, l[k]? = some x → rows[k]? = some r → R x r ∧ r.length = sz) (hr : R y r) (hl : r.length = sz) (ho : OwnS w' E sz v' (l.length + 1) (rows.flatten ++ r) ob') : OwnL w' E sz R v' (l ++ [y]) ob' := by
  refine ⟨rows ++ [r], by simp [h1], fun k x q hk hk' => ?_, by simpa using ho⟩
  by_cases hlt : k < l.length
  · rw [List.getElem?_append_left hlt] at hk
    rw [List.getElem?_append_left (by omega)] at hk'
    exact h2 k x q hk hk'
  · rw [List.getElem?_append_right (by omega)] at hk
    rw [List.getElem?_append_right (by omega), h1] at hk'
    have e : k - l.length = 0 := by have := (List.getElem?_eq_some_iff.1 hk).1; simp at this; omega
    rw [e] at hk hk'
    simp at hk hk'
    subst hk; subst hk'
    exact ⟨hr, hl⟩
section
variable {P : Program} {w : World} {b n : Nat} {f : Int → Option Value} {t kt et : TypeId} {o : Oper} {eval : Operand → Value}
theorem exec_lookI (h : MapI w b f n) (m x : Operand) (hop : o.op = Op.lookup t m x false) (ht : P.underlying t = some (.map kt et)) (hk : P.underlying kt = some (.int .i64)) {z : Value} (hz : (zeroValue et).run P w = .ok z w) {k : Int}
    (hm : eval m = .map (some b)) (hx : eval x = .int .i64 k) : (execOp eval o).run P w = .ok (.value ((f k).getD z)) w := by
  simp [execOp, hop, hm, hx, h.look ht hk hz k, Result.andThen]
theorem step_updI {ops : Array Oper} {a : Act} {K : Act → World → Prop} {Q : Exit → Act → World → Prop} {X : Prop} (hgd : o.guard = none) (m x v : Operand) (hop : o.op = Op.mapUpdate t m x v) (ht : P.underlying t = some (.map kt et)) (hk : P.underlying kt = some (.int .i64))
    (hm : a.eval m = .map (some b)) (h : MapI w b f n) {k : Int} (hx : a.eval x = .int .i64 k) {val : Value} (hv : a.eval v = val)
    (hK : ∀ w', MapI w' b (fput f k val) (n + 1) → ((f k).isSome → MapI w' b (fput f k val) n) → Mod (fun r => r = b) w w' → w'.heap.size = w.heap.size → K (a.put o.dst undef) w') : if Region.wanted o (yielded ops a.tmps) = true then Oper.wp P o a w K Q else X := by
  have hw : Region.wanted o (yielded ops a.tmps) = true := by simp [Region.wanted, hgd]
  rw [if_pos hw]
  obtain ⟨w', hrun, r1, r2, r3, r4⟩ := h.update ht hk k val
  unfold Oper.wp
  simp [execOp, hop, hm, hx, hv, hrun, Result.andThen]
  exact hK w' r1 r2 r3 r4
end
theorem outsE_skip {E : List PEdge} {typ : ByteArray} {k : Nat} {x : PEdge} (hx : E[k]? = some x) (hn : fitE typ x = false) (q : Int) : outsE (E.take (k + 1)) typ q = outsE (E.take k) typ q := by
  rw [List.take_add_one, hx]
  simp [outsE, List.filter_append, hn]
theorem outsE_put {E : List PEdge} {typ : ByteArray} {k : Nat} {x : PEdge} (hx : E[k]? = some x) (hy : fitE typ x = true) (q : Int) : outsE (E.take (k + 1)) typ q = gput (outsE (E.take k) typ) x.from_ (outsE (E.take k) typ x.from_ ++ [x]) q := by
  rw [List.take_add_one, hx]
  by_cases hq : q = x.from_
  · subst hq; simp [outsE, List.filter_append, hy, gput]
  · simp [outsE, List.filter_append, hy, gput, hq, Ne.symm hq]
theorem insE_skip {E : List PEdge} {typ : ByteArray} {k : Nat} {x : PEdge} (hx : E[k]? = some x) (hn : fitE typ x = false) (q : Int) : insE (E.take (k + 1)) typ q = insE (E.take k) typ q := by
  rw [List.take_add_one, hx]
  simp [insE, List.filter_append, hn]
theorem insE_put {E : List PEdge} {typ : ByteArray} {k : Nat} {x : PEdge} (hx : E[k]? = some x) (hy : fitE typ x = true) (q : Int) : insE (E.take (k + 1)) typ q = gput (insE (E.take k) typ) x.to_ (insE (E.take k) typ x.to_ ++ [x]) q := by
  rw [List.take_add_one, hx]
  by_cases hq : q = x.to_
  · subst hq; simp [insE, List.filter_append, hy, gput]
  · simp [insE, List.filter_append, hy, gput, hq, Ne.symm hq]

set_option maxRecDepth 100000 in
set_option maxHeartbeats 4000000 in
theorem adjWays (gv : Value) (E : List PEdge) (typ : ByteArray) (w : World) (hE : EdgesAt gv E w) (hb : E.length ≤ 1024) :
    Calls Tryz.prog 32 #[gv, .string typ] w fun e w' => ∃ b, e = .returned (.map (some b)) ∧ GroupsR (fun x => w.heap.size ≤ x ∧ x < w'.heap.size) w' b 2 REnd (outsE E typ) ∧ Grow w w' := by
  have HE := Lib.hid hE; have HB := Lib.hid hb
  obtain ⟨iP, hiP, hzP0, hzP1, hzP2⟩ := info_parts infoEnd
  have hmm := @run_makeMap Tryz.prog
  have HWM := Lib.hid (show ∀ o1, Grow w (w.alloc o1) from fun o1 => (Grow.rfl' w).allocd o1)
  have HG0 := Lib.hid (fun lo => GroupsI.made w 85 2 REnd lo)
  clear hE hb
  go_enter Tryz.func32, Tryz.ntmps32
  go_wp2_with fail
  refine (HE.out _ (HWM.out _)).mono ?_
  rintro e w2 ⟨v, rfl, hv, hg2⟩
  obtain ⟨aa, ca, rfl, hal, hac, -⟩ := SlR.open hv
  have HV := Lib.hid hv
  have HG2 := Lib.hid ((HWM.out _).step hg2)
  have HGR0 := Lib.hid ((HG0.out w2.heap.size).grow hg2)
  have hwl : w.heap.size < w2.heap.size := HGR0.out.1.lt
  unfold maxLen at hac
  clear hv hg2
  go_wp2
  go_loopg [12] E.length (fun g i wr => ∃ (k : Nat) (f : Int → Option Value) (ob : Int → Option Nat), k ≤ E.length ∧ g = E.length - k ∧ i = .int .i64 k ∧ GroupsI wr w.heap.size k 85 2 REnd w2.heap.size f ob (outsE (E.take k) typ) ∧ Mod (fun b => b = w.heap.size) w2 wr)
  case atStart => exact ⟨0, _, _, by omega, by omega, rfl, HGR0.out, Mod.rfl' _ _⟩
  case round =>
    obtain ⟨k, f, ob, hk, rfl, rfl, hgr, hmd⟩ := hrel
    have HGR := Lib.hid hgr; have HMD := Lib.hid hmd
    clear hgr hmd HGR0
    by_cases hkl : k < E.length
    · have hx := List.getElem?_eq_getElem hkl
      obtain ⟨ba, oa, pa, pc, rfl, hba, a0, a1, a2, a3, a4⟩ := edgeCells HV.out HMD.out (fun b hb e => absurd hb (by rw [e]; simp)) hx
      have HX := Lib.hid hx
      clear hx
      generalize E[k] = x at *
      have HSK := Lib.hid (fun hn => GroupsI.congr (g' := outsE (E.take (k + 1)) typ) ((HGR.out.mono (Nat.le_succ k))) (fun q => (outsE_skip HX.out hn q).symm))
      have HW := Lib.hid (show ∀ o1, Grow wr (wr.alloc o1) from fun o1 => (Grow.rfl' wr).allocd o1)
      cases ht : decide (typ = ByteArray.empty)
      · have hte : (typ.toList == ([] : List UInt8)) = false := (empty_beq typ).trans ht
        have HTF := Lib.hid ht
        clear ht
        cases hxt : decide (x.typ = typ)
        · have HN := Lib.hid (HSK.out (by simp only [fitE, HTF.out, hxt, Bool.or_self]))
          go_wp2_with fail
          go_roundg (E.length - (k + 1))
          case measure => omega
          case rel => exact ⟨k + 1, f, ob, by omega, rfl, by go_num, HN.out.grow (HW.out _), HMD.out.step (Mod.of_grow (HW.out _))⟩
        · have HFY := Lib.hid (show fitE typ x = true by simp only [fitE, HTF.out, hxt, Bool.or_true])
          go_wp2_with fail
          obtain ⟨wx, hwx⟩ : ∃ y, y = (wr.alloc (.cells #[.int .i64 x.id, .string x.typ, .int .i64 x.from_, .int .i64 x.to_, .slice pa x.props.length pc] 41)).drew := ⟨_, rfl⟩
          obtain ⟨rows, hr1, hr2, hos⟩ := HGR.out.2.1 x.from_
          have HR1 := Lib.hid hr1; have HR2 := Lib.hid hr2
          have HLX := Lib.hid (show Grow (wr.alloc (.cells #[.int .i64 x.id, .string x.typ, .int .i64 x.from_, .int .i64 x.to_, .slice pa x.props.length pc] 41)) wx from hwx ▸ (Grow.rfl' _).drewd)
          have HGX := Lib.hid (show Grow wr wx from hwx ▸ (HW.out _).drewd)
          have HBX := Lib.hid (show wx.heap[wr.heap.size]? = some (.cells #[.int .i64 x.id, .string x.typ, .int .i64 x.from_, .int .i64 x.to_, .slice pa x.props.length pc] 41 (0, 0)) from hwx ▸ heap_alloc_new wr _)
          have HLE := Lib.hid (show (outsE (E.take k) typ x.from_).length + 1 ≤ 1025 from by
            have h1 : (outsE (E.take k) typ x.from_).length ≤ (E.take k).length := List.length_filter_le _ _
            have h2 := List.length_take_le' k E
            have := HB.out
            omega)
          have HSS := Lib.hid (show ∀ w', Grow (wr.alloc (.cells #[.int .i64 x.id, .string x.typ, .int .i64 x.from_, .int .i64 x.to_, .slice pa x.props.length pc] 41)) w' → (w'.cell? ⟨wr.heap.size, 0, none⟩ = some (.int .i64 x.id) ∧ w'.cell? ⟨wr.heap.size, 2, none⟩ = some (.int .i64 x.from_) ∧ w'.cell? ⟨wr.heap.size, 3, none⟩ = some (.int .i64 x.to_) ∧ MapI w' w.heap.size f k) from fun w' hg => by
            have hh := (hg.heapEq (k := wr.heap.size) (by simp)).trans (heap_alloc_new wr _)
            exact ⟨by rw [blk_cell hh]; rfl, by rw [blk_cell hh]; rfl, by rw [blk_cell hh]; rfl, HGR.out.1.grow ((HW.out _).step hg)⟩)
          have HOS := Lib.hid (show ∀ o1, OwnS ((wx).alloc o1) 85 2 ((f x.from_).getD (.slice none 0 0)) (outsE (E.take k) typ x.from_).length rows.flatten (ob x.from_) from fun o1 => hos.grow (HGX.out.allocd o1))
          have HRD := Lib.hid (Rd.lit wx #[.int .i64 x.id, .int .i64 x.to_] 85 2 1 rfl)
          have HOB := Lib.hid HGR.out.2.2.1
          have HMX := Lib.hid (show ∀ w5, Mod (fun y => ob x.from_ = some y) (wx.alloc (.cells #[.int .i64 x.id, .int .i64 x.to_] 85)) w5 → MapI w5 w.heap.size f k from fun w5 hm => (HGR.out.1.grow (HGX.out.allocd _)).mod hm (fun e => (HOB.out _ _ e).2 rfl))
          have HSX := Lib.hid (show ∀ w5, Mod (fun y => ob x.from_ = some y) (wx.alloc (.cells #[.int .i64 x.id, .int .i64 x.to_] 85)) w5 → (w5.cell? ⟨wr.heap.size, 0, none⟩ = some (.int .i64 x.id) ∧ w5.cell? ⟨wr.heap.size, 2, none⟩ = some (.int .i64 x.from_) ∧ w5.cell? ⟨wr.heap.size, 3, none⟩ = some (.int .i64 x.to_) ∧ MapI w5 w.heap.size f k) from fun w5 hm => by
            have hl := blk_lt HBX.out
            have hh := ((hm.block wr.heap.size (by simp; omega) (fun e => by have := (HGR.out.2.1 x.from_).ltG _ e; omega)).trans (((Grow.rfl' wx).allocd _).heapEq hl)).trans HBX.out
            exact ⟨by rw [blk_cell hh]; rfl, by rw [blk_cell hh]; rfl, by rw [blk_cell hh]; rfl, HMX.out w5 hm⟩)
          have HEND := Lib.hid (show ∀ v5 w5 ob5 w6, OwnS w5 85 2 v5 ((outsE (E.take k) typ x.from_).length + 1) (rows.flatten ++ [.int .i64 x.id, .int .i64 x.to_]) ob5 → Mod (fun y => ob x.from_ = some y) (wx.alloc (.cells #[.int .i64 x.id, .int .i64 x.to_] 85)) w5 →
              (ob5 = ob x.from_ ∨ ∃ g, ob5 = some g ∧ (wx.alloc (.cells #[.int .i64 x.id, .int .i64 x.to_] 85)).heap.size ≤ g) → MapI w6 w.heap.size (fput f x.from_ v5) (k + 1) → Mod (fun r => r = w.heap.size) w5 w6 →
              ∃ (k' : Nat) (f' : Int → Option Value) (ob' : Int → Option Nat), k' ≤ E.length ∧ E.length - (k + 1) = E.length - k' ∧ (Value.int .i64 ((k : Int) + 1)) = .int .i64 k' ∧ GroupsI w6 w.heap.size k' 85 2 REnd w2.heap.size f' ob' (outsE (E.take k') typ) ∧ Mod (fun b => b = w.heap.size) w2 w6 from fun v5 w5 ob5 w6 p1 p2 p3 u1 u3 => by
            have hlo : w2.heap.size ≤ (wx.alloc (.cells #[.int .i64 x.id, .int .i64 x.to_] 85)).heap.size := Nat.le_trans HMD.out.size (HGX.out.allocd _).size
            have hst := HGR.out.step (HGX.out.allocd _) p2 (OwnL.push HR1.out HR2.out (y := x) (r := [.int .i64 x.id, .int .i64 x.to_]) rfl rfl p1) p3 hlo u1 u3
            exact ⟨k + 1, _, _, by omega, rfl, by simp, hst.congr (fun q => (outsE_put HX.out HFY.out q).symm), ((HMD.out.step (Mod.of_grow (HGX.out.allocd _))).step' p2 (fun y hy => .inr (HOB.out _ _ hy).1)).step u3⟩)
          clear hr1 hr2 hos
          refine wp_region_noPanic ?_
          refine wp_region_K (S := (fun w' => w'.cell? ⟨wr.heap.size, 0, none⟩ = some (.int .i64 x.id) ∧ w'.cell? ⟨wr.heap.size, 2, none⟩ = some (.int .i64 x.from_) ∧ w'.cell? ⟨wr.heap.size, 3, none⟩ = some (.int .i64 x.to_) ∧ MapI w' w.heap.size f k)) (by kernel_rfl) 14 (by decide) ?_ (fun hHeld => ?_)
          · exact HSS.out _ ((Grow.rfl' _).drewd)
          rw [← hwx] at hHeld ⊢
          clear hwx
          refine' headK_take (i := 0) (oi := ?o16) (v := _) (by simp only [List.getElem?_toArray, List.getElem?_cons_zero]; rfl) (by kernel_rfl) (by kernel_rfl) (by kernel_rfl) (by decide) (by decide) (by kernel_rfl) (by kernel_rfl) (fun _ _ _ h => h) (Or.inl ⟨by rfl, ?y16⟩) (by assumption) ?r16
          case y16 =>
            intro wS hSw
            try dsimp only at hSw
            go_simp
            all_goals with_reducible rfl
          simp only [Act.put, List.setIfInBounds_toArray, List.set_cons_zero, List.set_cons_succ]
          refine' headK_take (i := 1) (oi := ?o17) (v := _) (by simp only [List.getElem?_toArray, List.getElem?_cons_succ, List.getElem?_cons_zero]; rfl) (by kernel_rfl) (by kernel_rfl) (by kernel_rfl) (by decide) (by decide) (by kernel_rfl) (by kernel_rfl) (fun _ _ _ h => h) (Or.inl ⟨by rfl, ?y17⟩) (by assumption) ?r17
          case y17 =>
            intro wS hSw
            try dsimp only at hSw
            go_simp
            all_goals with_reducible rfl
          simp only [Act.put, List.setIfInBounds_toArray, List.set_cons_zero, List.set_cons_succ]
          refine' headK_take (i := 2) (oi := ?o18) (v := _) (by simp only [List.getElem?_toArray, List.getElem?_cons_succ, List.getElem?_cons_zero]; rfl) (by kernel_rfl) (by kernel_rfl) (by kernel_rfl) (by decide) (by decide) (by kernel_rfl) (by kernel_rfl) (fun _ _ _ h => h) (Or.inl ⟨by rfl, ?y18⟩) (by assumption) ?r18
          case y18 =>
            intro wS hSw
            try dsimp only at hSw
            go_simp
            all_goals with_reducible rfl
          simp only [Act.put, List.setIfInBounds_toArray, List.set_cons_zero, List.set_cons_succ]
          refine' headK_take (i := 3) (oi := ?o19) (v := _) (by simp only [List.getElem?_toArray, List.getElem?_cons_succ, List.getElem?_cons_zero]; rfl) (by kernel_rfl) (by kernel_rfl) (by kernel_rfl) (by decide) (by decide) (by kernel_rfl) (by kernel_rfl) (fun _ _ _ h => h) (Or.inl ⟨by rfl, ?y19⟩) (by assumption) ?r19
          case y19 =>
            intro wS hSw
            try dsimp only at hSw
            go_simp
            all_goals with_reducible rfl
          simp only [Act.put, List.setIfInBounds_toArray, List.set_cons_zero, List.set_cons_succ]
          refine' headK_take (i := 4) (oi := ?o20) (v := _) (by simp only [List.getElem?_toArray, List.getElem?_cons_succ, List.getElem?_cons_zero]; rfl) (by kernel_rfl) (by kernel_rfl) (by kernel_rfl) (by decide) (by decide) (by kernel_rfl) (by kernel_rfl) (fun _ _ _ h => h) (Or.inl ⟨by rfl, ?y20⟩) (by assumption) ?r20
          case y20 =>
            intro wS hSw
            try dsimp only at hSw
            go_simp
            all_goals with_reducible rfl
          simp only [Act.put, List.setIfInBounds_toArray, List.set_cons_zero, List.set_cons_succ]
          refine' headK_take (i := 5) (oi := ?o21) (v := _) (by simp only [List.getElem?_toArray, List.getElem?_cons_succ, List.getElem?_cons_zero]; rfl) (by kernel_rfl) (by kernel_rfl) (by kernel_rfl) (by decide) (by decide) (by kernel_rfl) (by kernel_rfl) (fun _ _ _ h => h) (Or.inl ⟨by rfl, ?y21⟩) (by assumption) ?r21
          case y21 =>
            intro wS hSw
            try dsimp only at hSw
            go_simp
            all_goals with_reducible rfl
          simp only [Act.put, List.setIfInBounds_toArray, List.set_cons_zero, List.set_cons_succ]
          refine' headK_take (i := 6) (oi := ?o22) (v := _) (by simp only [List.getElem?_toArray, List.getElem?_cons_succ, List.getElem?_cons_zero]; rfl) (by kernel_rfl) (by kernel_rfl) (by kernel_rfl) (by decide) (by decide) (by kernel_rfl) (by kernel_rfl) (fun _ _ _ h => h) (Or.inl ⟨by rfl, ?y22⟩) (by assumption) ?r22
          case y22 =>
            intro wS hSw
            try dsimp only at hSw
            refine exec_lookI (k := x.from_) hSw.2.2.2 (.tmp 27) (.tmp 29) ?_ Tryz.underlying78 Tryz.underlying2 (zeroEnds _) ?_ ?_
            all_goals rfl
          simp only [Act.put, List.setIfInBounds_toArray, List.set_cons_zero, List.set_cons_succ]
          refine' headK_take (i := 7) (oi := ?o23) (v := _) (by simp only [List.getElem?_toArray, List.getElem?_cons_succ, List.getElem?_cons_zero]; rfl) (by kernel_rfl) (by kernel_rfl) (by kernel_rfl) (by decide) (by decide) (by kernel_rfl) (by kernel_rfl) (fun _ _ _ h => h) (Or.inl ⟨by rfl, ?y23⟩) (by assumption) ?r23
          case y23 =>
            intro wS hSw
            try dsimp only at hSw
            go_simp
            all_goals with_reducible rfl
          simp only [Act.put, List.setIfInBounds_toArray, List.set_cons_zero, List.set_cons_succ]
          refine' headK_take (i := 8) (oi := ?o24) (v := _) (by simp only [List.getElem?_toArray, List.getElem?_cons_succ, List.getElem?_cons_zero]; rfl) (by kernel_rfl) (by kernel_rfl) (by kernel_rfl) (by decide) (by decide) (by kernel_rfl) (by kernel_rfl) (fun _ _ _ h => h) (Or.inl ⟨by rfl, ?y24⟩) (by assumption) ?r24
          case y24 =>
            intro wS hSw
            try dsimp only at hSw
            go_simp
            all_goals with_reducible rfl
          simp only [Act.put, List.setIfInBounds_toArray, List.set_cons_zero, List.set_cons_succ]
          refine' headK_take (i := 9) (oi := ?o25) (v := _) (by simp only [List.getElem?_toArray, List.getElem?_cons_succ, List.getElem?_cons_zero]; rfl) (by kernel_rfl) (by kernel_rfl) (by kernel_rfl) (by decide) (by decide) (by kernel_rfl) (by kernel_rfl) (fun _ _ _ h => h) (Or.inl ⟨by rfl, ?y25⟩) (by assumption) ?r25
          case y25 =>
            intro wS hSw
            try dsimp only at hSw
            go_simp
            all_goals with_reducible rfl
          simp only [Act.put, List.setIfInBounds_toArray, List.set_cons_zero, List.set_cons_succ]
          refine' headK_take (i := 10) (oi := ?o26) (v := _) (by simp only [List.getElem?_toArray, List.getElem?_cons_succ, List.getElem?_cons_zero]; rfl) (by kernel_rfl) (by kernel_rfl) (by kernel_rfl) (by decide) (by decide) (by kernel_rfl) (by kernel_rfl) (fun _ _ _ h => h) (Or.inl ⟨by rfl, ?y26⟩) (by assumption) ?r26
          case y26 =>
            intro wS hSw
            try dsimp only at hSw
            go_simp
            all_goals with_reducible rfl
          simp only [Act.put, List.setIfInBounds_toArray, List.set_cons_zero, List.set_cons_succ]
          refine' headK_take (i := 11) (oi := ?o27) (v := _) (by simp only [List.getElem?_toArray, List.getElem?_cons_succ, List.getElem?_cons_zero]; rfl) (by kernel_rfl) (by kernel_rfl) (by kernel_rfl) (by decide) (by decide) (by kernel_rfl) (by kernel_rfl) (fun _ _ _ h => h) (Or.inl ⟨by rfl, ?y27⟩) (by assumption) ?r27
          case y27 =>
            intro wS hSw
            try dsimp only at hSw
            go_simp
            all_goals with_reducible rfl
          simp only [Act.put, List.setIfInBounds_toArray, List.set_cons_zero, List.set_cons_succ]
          refine' headK_one (i := 12) (o := ?o28) (by simp only [List.getElem?_toArray, List.getElem?_cons_succ, List.getElem?_cons_zero]; rfl) (by kernel_rfl) (by decide) (fun K hK => ?s28)
          go_simp
          refine hK.out _ _ ?_ (fun hHeld => ?_)
          · exact HSS.out _ (HLX.out.allocd _)
          clear hK K
          try simp only [Act.put, List.setIfInBounds_toArray, List.set_cons_zero, List.set_cons_succ]
          refine' headK_one (i := 13) (o := ?o29) (by simp only [List.getElem?_toArray, List.getElem?_cons_succ, List.getElem?_cons_zero]; rfl) (by kernel_rfl) (by decide) (fun K hK => ?s29)
          refine step_append_S rfl (.tmp 30) (.tmp 36) 83 rfl 85 iP _ 2 16 Tryz.underlying83 hiP hzP0 hzP1 hzP2 rfl (by decide) ((f x.from_).getD (.slice none 0 0)) (outsE (E.take k) typ x.from_).length rows.flatten (ob x.from_) (by rfl) (HOS.out _) (.slice (some ⟨wx.heap.size, 0, none⟩) 1 1) (by rfl) 1 _ HRD.out (by intro u hu; simp only [List.mem_cons, List.not_mem_nil, or_false] at hu; rcases hu with rfl | rfl <;> rfl) (by have := HLE.out; unfold maxLen; omega) (by have := HLE.out; omega) ?_
          intro v5 w5 ob5 p1 p2 p3 _
          have P1 := Lib.hid p1; have P2 := Lib.hid p2; have P3 := Lib.hid p3
          have HM5 := Lib.hid (HMX.out _ p2)
          have HS5 := Lib.hid (HSX.out _ p2)
          clear p1 p2 p3
          refine hK.out _ _ ?_ (fun hHeld => ?_)
          · exact HS5.out
          clear hK K
          try simp only [Act.put, List.setIfInBounds_toArray, List.set_cons_zero, List.set_cons_succ]
          refine' headK_last (o := ?o30) (by simp only [List.getElem?_toArray, List.getElem?_cons_succ, List.getElem?_cons_zero]; rfl) (by kernel_rfl) (by kernel_rfl) (fun K hK => ?s30)
          refine step_updI rfl (.tmp 24) (.tmp 26) (.tmp 37) rfl Tryz.underlying78 Tryz.underlying2 (by rfl) HM5.out (by rfl) (by rfl) ?_
          intro w6 u1 u2 u3 u4
          refine hK.out _ _ ?_
          clear hK K
          try simp only [Act.put]
          refine NoPanic.normal ?_
          go_wp2_with fail
          go_roundg (E.length - (k + 1))
          case measure => omega
          case rel => exact HEND.out _ _ _ _ P1.out P2.out P3.out u1 u3
      · have hte : (typ.toList == ([] : List UInt8)) = true := (empty_beq typ).trans ht
        have HFY := Lib.hid (show fitE typ x = true by simp only [fitE, ht, Bool.true_or])
        clear ht
        go_wp2_with fail
        obtain ⟨wx, hwx⟩ : ∃ y, y = (wr.alloc (.cells #[.int .i64 x.id, .string x.typ, .int .i64 x.from_, .int .i64 x.to_, .slice pa x.props.length pc] 41)).drew := ⟨_, rfl⟩
        obtain ⟨rows, hr1, hr2, hos⟩ := HGR.out.2.1 x.from_
        have HR1 := Lib.hid hr1; have HR2 := Lib.hid hr2
        have HLX := Lib.hid (show Grow (wr.alloc (.cells #[.int .i64 x.id, .string x.typ, .int .i64 x.from_, .int .i64 x.to_, .slice pa x.props.length pc] 41)) wx from hwx ▸ (Grow.rfl' _).drewd)
        have HGX := Lib.hid (show Grow wr wx from hwx ▸ (HW.out _).drewd)
        have HBX := Lib.hid (show wx.heap[wr.heap.size]? = some (.cells #[.int .i64 x.id, .string x.typ, .int .i64 x.from_, .int .i64 x.to_, .slice pa x.props.length pc] 41 (0, 0)) from hwx ▸ heap_alloc_new wr _)
        have HLE := Lib.hid (show (outsE (E.take k) typ x.from_).length + 1 ≤ 1025 from by
          have h1 : (outsE (E.take k) typ x.from_).length ≤ (E.take k).length := List.length_filter_le _ _
          have h2 := List.length_take_le' k E
          have := HB.out
          omega)
        have HSS := Lib.hid (show ∀ w', Grow (wr.alloc (.cells #[.int .i64 x.id, .string x.typ, .int .i64 x.from_, .int .i64 x.to_, .slice pa x.props.length pc] 41)) w' → (w'.cell? ⟨wr.heap.size, 0, none⟩ = some (.int .i64 x.id) ∧ w'.cell? ⟨wr.heap.size, 2, none⟩ = some (.int .i64 x.from_) ∧ w'.cell? ⟨wr.heap.size, 3, none⟩ = some (.int .i64 x.to_) ∧ MapI w' w.heap.size f k) from fun w' hg => by
          have hh := (hg.heapEq (k := wr.heap.size) (by simp)).trans (heap_alloc_new wr _)
          exact ⟨by rw [blk_cell hh]; rfl, by rw [blk_cell hh]; rfl, by rw [blk_cell hh]; rfl, HGR.out.1.grow ((HW.out _).step hg)⟩)
        have HOS := Lib.hid (show ∀ o1, OwnS ((wx).alloc o1) 85 2 ((f x.from_).getD (.slice none 0 0)) (outsE (E.take k) typ x.from_).length rows.flatten (ob x.from_) from fun o1 => hos.grow (HGX.out.allocd o1))
        have HRD := Lib.hid (Rd.lit wx #[.int .i64 x.id, .int .i64 x.to_] 85 2 1 rfl)
        have HOB := Lib.hid HGR.out.2.2.1
        have HMX := Lib.hid (show ∀ w5, Mod (fun y => ob x.from_ = some y) (wx.alloc (.cells #[.int .i64 x.id, .int .i64 x.to_] 85)) w5 → MapI w5 w.heap.size f k from fun w5 hm => (HGR.out.1.grow (HGX.out.allocd _)).mod hm (fun e => (HOB.out _ _ e).2 rfl))
        have HSX := Lib.hid (show ∀ w5, Mod (fun y => ob x.from_ = some y) (wx.alloc (.cells #[.int .i64 x.id, .int .i64 x.to_] 85)) w5 → (w5.cell? ⟨wr.heap.size, 0, none⟩ = some (.int .i64 x.id) ∧ w5.cell? ⟨wr.heap.size, 2, none⟩ = some (.int .i64 x.from_) ∧ w5.cell? ⟨wr.heap.size, 3, none⟩ = some (.int .i64 x.to_) ∧ MapI w5 w.heap.size f k) from fun w5 hm => by
          have hl := blk_lt HBX.out
          have hh := ((hm.block wr.heap.size (by simp; omega) (fun e => by have := (HGR.out.2.1 x.from_).ltG _ e; omega)).trans (((Grow.rfl' wx).allocd _).heapEq hl)).trans HBX.out
          exact ⟨by rw [blk_cell hh]; rfl, by rw [blk_cell hh]; rfl, by rw [blk_cell hh]; rfl, HMX.out w5 hm⟩)
        have HEND := Lib.hid (show ∀ v5 w5 ob5 w6, OwnS w5 85 2 v5 ((outsE (E.take k) typ x.from_).length + 1) (rows.flatten ++ [.int .i64 x.id, .int .i64 x.to_]) ob5 → Mod (fun y => ob x.from_ = some y) (wx.alloc (.cells #[.int .i64 x.id, .int .i64 x.to_] 85)) w5 →
            (ob5 = ob x.from_ ∨ ∃ g, ob5 = some g ∧ (wx.alloc (.cells #[.int .i64 x.id, .int .i64 x.to_] 85)).heap.size ≤ g) → MapI w6 w.heap.size (fput f x.from_ v5) (k + 1) → Mod (fun r => r = w.heap.size) w5 w6 →
            ∃ (k' : Nat) (f' : Int → Option Value) (ob' : Int → Option Nat), k' ≤ E.length ∧ E.length - (k + 1) = E.length - k' ∧ (Value.int .i64 ((k : Int) + 1)) = .int .i64 k' ∧ GroupsI w6 w.heap.size k' 85 2 REnd w2.heap.size f' ob' (outsE (E.take k') typ) ∧ Mod (fun b => b = w.heap.size) w2 w6 from fun v5 w5 ob5 w6 p1 p2 p3 u1 u3 => by
          have hlo : w2.heap.size ≤ (wx.alloc (.cells #[.int .i64 x.id, .int .i64 x.to_] 85)).heap.size := Nat.le_trans HMD.out.size (HGX.out.allocd _).size
          have hst := HGR.out.step (HGX.out.allocd _) p2 (OwnL.push HR1.out HR2.out (y := x) (r := [.int .i64 x.id, .int .i64 x.to_]) rfl rfl p1) p3 hlo u1 u3
          exact ⟨k + 1, _, _, by omega, rfl, by simp, hst.congr (fun q => (outsE_put HX.out HFY.out q).symm), ((HMD.out.step (Mod.of_grow (HGX.out.allocd _))).step' p2 (fun y hy => .inr (HOB.out _ _ hy).1)).step u3⟩)
        clear hr1 hr2 hos
        refine wp_region_noPanic ?_
        refine wp_region_K (S := (fun w' => w'.cell? ⟨wr.heap.size, 0, none⟩ = some (.int .i64 x.id) ∧ w'.cell? ⟨wr.heap.size, 2, none⟩ = some (.int .i64 x.from_) ∧ w'.cell? ⟨wr.heap.size, 3, none⟩ = some (.int .i64 x.to_) ∧ MapI w' w.heap.size f k)) (by kernel_rfl) 14 (by decide) ?_ (fun hHeld => ?_)
        · exact HSS.out _ ((Grow.rfl' _).drewd)
        rw [← hwx] at hHeld ⊢
        clear hwx
        refine' headK_take (i := 0) (oi := ?o1) (v := _) (by simp only [List.getElem?_toArray, List.getElem?_cons_zero]; rfl) (by kernel_rfl) (by kernel_rfl) (by kernel_rfl) (by decide) (by decide) (by kernel_rfl) (by kernel_rfl) (fun _ _ _ h => h) (Or.inl ⟨by rfl, ?y1⟩) (by assumption) ?r1
        case y1 =>
          intro wS hSw
          try dsimp only at hSw
          go_simp
          all_goals with_reducible rfl
        simp only [Act.put, List.setIfInBounds_toArray, List.set_cons_zero, List.set_cons_succ]
        refine' headK_take (i := 1) (oi := ?o2) (v := _) (by simp only [List.getElem?_toArray, List.getElem?_cons_succ, List.getElem?_cons_zero]; rfl) (by kernel_rfl) (by kernel_rfl) (by kernel_rfl) (by decide) (by decide) (by kernel_rfl) (by kernel_rfl) (fun _ _ _ h => h) (Or.inl ⟨by rfl, ?y2⟩) (by assumption) ?r2
        case y2 =>
          intro wS hSw
          try dsimp only at hSw
          go_simp
          all_goals with_reducible rfl
        simp only [Act.put, List.setIfInBounds_toArray, List.set_cons_zero, List.set_cons_succ]
        refine' headK_take (i := 2) (oi := ?o3) (v := _) (by simp only [List.getElem?_toArray, List.getElem?_cons_succ, List.getElem?_cons_zero]; rfl) (by kernel_rfl) (by kernel_rfl) (by kernel_rfl) (by decide) (by decide) (by kernel_rfl) (by kernel_rfl) (fun _ _ _ h => h) (Or.inl ⟨by rfl, ?y3⟩) (by assumption) ?r3
        case y3 =>
          intro wS hSw
          try dsimp only at hSw
          go_simp
          all_goals with_reducible rfl
        simp only [Act.put, List.setIfInBounds_toArray, List.set_cons_zero, List.set_cons_succ]
        refine' headK_take (i := 3) (oi := ?o4) (v := _) (by simp only [List.getElem?_toArray, List.getElem?_cons_succ, List.getElem?_cons_zero]; rfl) (by kernel_rfl) (by kernel_rfl) (by kernel_rfl) (by decide) (by decide) (by kernel_rfl) (by kernel_rfl) (fun _ _ _ h => h) (Or.inl ⟨by rfl, ?y4⟩) (by assumption) ?r4
        case y4 =>
          intro wS hSw
          try dsimp only at hSw
          go_simp
          all_goals with_reducible rfl
        simp only [Act.put, List.setIfInBounds_toArray, List.set_cons_zero, List.set_cons_succ]
        refine' headK_take (i := 4) (oi := ?o5) (v := _) (by simp only [List.getElem?_toArray, List.getElem?_cons_succ, List.getElem?_cons_zero]; rfl) (by kernel_rfl) (by kernel_rfl) (by kernel_rfl) (by decide) (by decide) (by kernel_rfl) (by kernel_rfl) (fun _ _ _ h => h) (Or.inl ⟨by rfl, ?y5⟩) (by assumption) ?r5
        case y5 =>
          intro wS hSw
          try dsimp only at hSw
          go_simp
          all_goals with_reducible rfl
        simp only [Act.put, List.setIfInBounds_toArray, List.set_cons_zero, List.set_cons_succ]
        refine' headK_take (i := 5) (oi := ?o6) (v := _) (by simp only [List.getElem?_toArray, List.getElem?_cons_succ, List.getElem?_cons_zero]; rfl) (by kernel_rfl) (by kernel_rfl) (by kernel_rfl) (by decide) (by decide) (by kernel_rfl) (by kernel_rfl) (fun _ _ _ h => h) (Or.inl ⟨by rfl, ?y6⟩) (by assumption) ?r6
        case y6 =>
          intro wS hSw
          try dsimp only at hSw
          go_simp
          all_goals with_reducible rfl
        simp only [Act.put, List.setIfInBounds_toArray, List.set_cons_zero, List.set_cons_succ]
        refine' headK_take (i := 6) (oi := ?o7) (v := _) (by simp only [List.getElem?_toArray, List.getElem?_cons_succ, List.getElem?_cons_zero]; rfl) (by kernel_rfl) (by kernel_rfl) (by kernel_rfl) (by decide) (by decide) (by kernel_rfl) (by kernel_rfl) (fun _ _ _ h => h) (Or.inl ⟨by rfl, ?y7⟩) (by assumption) ?r7
        case y7 =>
          intro wS hSw
          try dsimp only at hSw
          refine exec_lookI (k := x.from_) hSw.2.2.2 (.tmp 27) (.tmp 29) ?_ Tryz.underlying78 Tryz.underlying2 (zeroEnds _) ?_ ?_
          all_goals rfl
        simp only [Act.put, List.setIfInBounds_toArray, List.set_cons_zero, List.set_cons_succ]
        refine' headK_take (i := 7) (oi := ?o8) (v := _) (by simp only [List.getElem?_toArray, List.getElem?_cons_succ, List.getElem?_cons_zero]; rfl) (by kernel_rfl) (by kernel_rfl) (by kernel_rfl) (by decide) (by decide) (by kernel_rfl) (by kernel_rfl) (fun _ _ _ h => h) (Or.inl ⟨by rfl, ?y8⟩) (by assumption) ?r8
        case y8 =>
          intro wS hSw
          try dsimp only at hSw
          go_simp
          all_goals with_reducible rfl
        simp only [Act.put, List.setIfInBounds_toArray, List.set_cons_zero, List.set_cons_succ]
        refine' headK_take (i := 8) (oi := ?o9) (v := _) (by simp only [List.getElem?_toArray, List.getElem?_cons_succ, List.getElem?_cons_zero]; rfl) (by kernel_rfl) (by kernel_rfl) (by kernel_rfl) (by decide) (by decide) (by kernel_rfl) (by kernel_rfl) (fun _ _ _ h => h) (Or.inl ⟨by rfl, ?y9⟩) (by assumption) ?r9
        case y9 =>
          intro wS hSw
          try dsimp only at hSw
          go_simp
          all_goals with_reducible rfl
        simp only [Act.put, List.setIfInBounds_toArray, List.set_cons_zero, List.set_cons_succ]
        refine' headK_take (i := 9) (oi := ?o10) (v := _) (by simp only [List.getElem?_toArray, List.getElem?_cons_succ, List.getElem?_cons_zero]; rfl) (by kernel_rfl) (by kernel_rfl) (by kernel_rfl) (by decide) (by decide) (by kernel_rfl) (by kernel_rfl) (fun _ _ _ h => h) (Or.inl ⟨by rfl, ?y10⟩) (by assumption) ?r10
        case y10 =>
          intro wS hSw
          try dsimp only at hSw
          go_simp
          all_goals with_reducible rfl
        simp only [Act.put, List.setIfInBounds_toArray, List.set_cons_zero, List.set_cons_succ]
        refine' headK_take (i := 10) (oi := ?o11) (v := _) (by simp only [List.getElem?_toArray, List.getElem?_cons_succ, List.getElem?_cons_zero]; rfl) (by kernel_rfl) (by kernel_rfl) (by kernel_rfl) (by decide) (by decide) (by kernel_rfl) (by kernel_rfl) (fun _ _ _ h => h) (Or.inl ⟨by rfl, ?y11⟩) (by assumption) ?r11
        case y11 =>
          intro wS hSw
          try dsimp only at hSw
          go_simp
          all_goals with_reducible rfl
        simp only [Act.put, List.setIfInBounds_toArray, List.set_cons_zero, List.set_cons_succ]
        refine' headK_take (i := 11) (oi := ?o12) (v := _) (by simp only [List.getElem?_toArray, List.getElem?_cons_succ, List.getElem?_cons_zero]; rfl) (by kernel_rfl) (by kernel_rfl) (by kernel_rfl) (by decide) (by decide) (by kernel_rfl) (by kernel_rfl) (fun _ _ _ h => h) (Or.inl ⟨by rfl, ?y12⟩) (by assumption) ?r12
        case y12 =>
          intro wS hSw
          try dsimp only at hSw
          go_simp
          all_goals with_reducible rfl
        simp only [Act.put, List.setIfInBounds_toArray, List.set_cons_zero, List.set_cons_succ]
        refine' headK_one (i := 12) (o := ?o13) (by simp only [List.getElem?_toArray, List.getElem?_cons_succ, List.getElem?_cons_zero]; rfl) (by kernel_rfl) (by decide) (fun K hK => ?s13)
        go_simp
        refine hK.out _ _ ?_ (fun hHeld => ?_)
        · exact HSS.out _ (HLX.out.allocd _)
        clear hK K
        try simp only [Act.put, List.setIfInBounds_toArray, List.set_cons_zero, List.set_cons_succ]
        refine' headK_one (i := 13) (o := ?o14) (by simp only [List.getElem?_toArray, List.getElem?_cons_succ, List.getElem?_cons_zero]; rfl) (by kernel_rfl) (by decide) (fun K hK => ?s14)
        refine step_append_S rfl (.tmp 30) (.tmp 36) 83 rfl 85 iP _ 2 16 Tryz.underlying83 hiP hzP0 hzP1 hzP2 rfl (by decide) ((f x.from_).getD (.slice none 0 0)) (outsE (E.take k) typ x.from_).length rows.flatten (ob x.from_) (by rfl) (HOS.out _) (.slice (some ⟨wx.heap.size, 0, none⟩) 1 1) (by rfl) 1 _ HRD.out (by intro u hu; simp only [List.mem_cons, List.not_mem_nil, or_false] at hu; rcases hu with rfl | rfl <;> rfl) (by have := HLE.out; unfold maxLen; omega) (by have := HLE.out; omega) ?_
        intro v5 w5 ob5 p1 p2 p3 _
        have P1 := Lib.hid p1; have P2 := Lib.hid p2; have P3 := Lib.hid p3
        have HM5 := Lib.hid (HMX.out _ p2)
        have HS5 := Lib.hid (HSX.out _ p2)
        clear p1 p2 p3
        refine hK.out _ _ ?_ (fun hHeld => ?_)
        · exact HS5.out
        clear hK K
        try simp only [Act.put, List.setIfInBounds_toArray, List.set_cons_zero, List.set_cons_succ]
        refine' headK_last (o := ?o15) (by simp only [List.getElem?_toArray, List.getElem?_cons_succ, List.getElem?_cons_zero]; rfl) (by kernel_rfl) (by kernel_rfl) (fun K hK => ?s15)
        refine step_updI rfl (.tmp 24) (.tmp 26) (.tmp 37) rfl Tryz.underlying78 Tryz.underlying2 (by rfl) HM5.out (by rfl) (by rfl) ?_
        intro w6 u1 u2 u3 u4
        refine hK.out _ _ ?_
        clear hK K
        try simp only [Act.put]
        refine NoPanic.normal ?_
        go_wp2_with fail
        go_roundg (E.length - (k + 1))
        case measure => omega
        case rel => exact HEND.out _ _ _ _ P1.out P2.out P3.out u1 u3
    · have hkk : E.take k = E := List.take_of_length_le (by omega)
      rw [hkk] at HGR
      have HFIN := Lib.hid (HGR.out)
      go_wp2
      go_ret
      have hsz := HMD.out.size
      refine ⟨_, rfl, ?_, HG2.out.modd HMD.out (fun b hb => by omega)⟩
      exact HFIN.out.toR' (Nat.le_refl _) (Nat.le_of_lt hwl)
end Go.Hg

namespace Go.Hg
open MapKept Go.Maps Go.WideElems
/-- what stands at a key is not looked at -/
def anyElem (v : Value) : Option (DataW Unit × List MemPlace) := some ((fun _ => .agg []) v, [])
theorem MapI.owns {w : World} {b n : Nat} {f : Int → Option Value} (h : MapI w b f n) {P : Program} {k : TypeId} (hk : P.underlying k = some (.int .i64)) (hn : n ≤ maxLen) (hw : ∀ x, f x ≠ none → (Lit.int .i64 x).wf = true) :
    ∃ D0 : DataW Unit, w.ownsMap P k anyElem b n D0 ∧ Maps.size D0 ≤ n ∧ ∀ ss : List Int, ss.Perm (intKeys D0) → ss.Nodup ∧ ∀ x, x ∈ ss ↔ f x ≠ none := by
  obtain ⟨es, c, hb, hs, hz, hi, hf⟩ := h
  have F : Fit P k anyElem es c := ⟨Nat.le_trans hz hn, hs, fun x hx => by
    obtain ⟨q, hq⟩ := hi x hx
    have hwq := hw q (by rw [(hf q x.val).2 ⟨x, hx, hq, rfl⟩]; simp)
    exact ⟨(.int .i64 q, .agg []), by
      unfold rd
      rw [hq, keyOf_int_mk hk hwq]
      rfl⟩⟩
  have hown : w.ownsMap P k anyElem b n (.map ((es.toList.map (rg P k anyElem)).foldr DataW.insert [])) := ⟨es, c, hb, F, hz, rfl⟩
  refine ⟨_, hown, hown.size_le, fun ss hp => ?_⟩
  let L : List Int := es.toList.map fun x => match x.key with | .int _ a => a | _ => 0
  have hL : ∀ x, x ∈ L ↔ f x ≠ none := by
    intro x
    constructor
    · intro hx
      obtain ⟨e, he, rfl⟩ := List.mem_map.1 hx
      obtain ⟨q, hq⟩ := hi e he
      rw [hq]
      rw [(hf q e.val).2 ⟨e, he, hq, rfl⟩]
      simp
    · intro hx
      cases hfx : f x with
      | none => exact absurd hfx hx
      | some v =>
        obtain ⟨e, he, hq, -⟩ := (hf x v).1 hfx
        exact List.mem_map.2 ⟨e, he, by rw [hq]⟩
  have hnd : L.Nodup := by
    have h3 := hs.2.2
    refine List.pairwise_map.2 ?_
    refine (List.pairwise_map.1 h3).imp_of_mem ?_
    intro a e ha he hne hx
    obtain ⟨q, hq⟩ := hi a ha
    obtain ⟨q', hq'⟩ := hi e he
    rw [hq, hq'] at hx
    simp only at hx
    exact hne (by rw [hq, hq', hx])
  have key : L.Perm (intKeys (.map ((es.toList.map (rg P k anyElem)).foldr DataW.insert []))) := by
    have hperm : ∀ l : List (Lit × DataW Unit), (l.foldr DataW.insert []).Perm l := by
      intro l
      induction l with
      | nil => exact List.Perm.nil
      | cons a t ih =>
        have hin : ∀ (x : Lit × DataW Unit) (m : List (Lit × DataW Unit)), (DataW.insert x m).Perm (x :: m) := by
          intro x m
          induction m with
          | nil => exact List.Perm.refl _
          | cons y r ihr =>
            unfold DataW.insert
            split
            · exact List.Perm.refl _
            · exact (ihr.cons y).trans (List.Perm.swap x y r)
        exact (hin a _).trans (ih.cons a)
    have h1 := ((hperm (es.toList.map (rg P k anyElem))).map fun p => intOf p.1).symm
    refine List.Perm.trans (List.Perm.of_eq ?_) h1
    rw [List.map_map]
    refine List.map_congr_left fun x hx => ?_
    obtain ⟨q, hq⟩ := hi x hx
    obtain ⟨y, hy⟩ := F.reads x hx
    have h2 := rd_key hy
    rw [hq, keyOf_int_mk hk (hw q (by rw [(hf q x.val).2 ⟨x, hx, hq, rfl⟩]; simp))] at h2
    simp only [Function.comp, rg_of hy, ← Option.some.inj h2, hq, intOf]
  have hpl := hp.trans key.symm
  exact ⟨hpl.nodup_iff.2 hnd, fun x => (hpl.mem_iff).trans (hL x)⟩
/-- sorted: it rises, and has the same numbers -/
theorem rset_sorted {ss : List Int} {p : Int → Prop} (hn : ss.Nodup) (hm : ∀ x, x ∈ ss ↔ p x) : RSet (ss.mergeSort fun x y => decide (x ≤ y)) p := by
  have hp := List.mergeSort_perm ss (fun x y => decide (x ≤ y))
  refine ⟨?_, fun y => hp.mem_iff.trans (hm y)⟩
  have h1 : (ss.mergeSort fun x y => decide (x ≤ y)).Pairwise fun a b => decide (a ≤ b) = true := List.pairwise_mergeSort (fun a b c h1 h2 => by simp only [decide_eq_true_eq] at *; omega) (fun a b => by simp only [Bool.or_eq_true, decide_eq_true_eq]; omega) ss
  have h2 : (ss.mergeSort fun x y => decide (x ≤ y)).Nodup := hp.nodup_iff.2 hn
  refine (h1.and h2).imp fun {a b} h => ?_
  have h3 := h.1
  have h4 := h.2
  simp only [decide_eq_true_eq] at h3
  omega
end Go.Hg

namespace Go.Hg
open Go.RowKit Go.Maps Go.Sort Go.Shelf Go.Proofs

def keysA_ren : Go.Shelf.Ren := ⟨fun | 7 => 39 | 10 => 61 | n => n, fun | 23 => 80 | 26 => 2 | 3 => 3 | 28 => 94 | 0 => 0 | 27 => 93 | 33 => 46 | 4 => 4 | n => n, fun | n => n⟩
theorem keysA : SlLaysZI.n7 Tryz.prog keysA_ren := {
  mixed := by kernel_rfl,
  f7 := ⟨Tryz.f39.name, by decide, Tryz.func39.trans (congrArg some (by kernel_rfl))⟩,
  f10 := ⟨Tryz.f61.name, by decide, Tryz.func61.trans (congrArg some (by kernel_rfl))⟩,
  t0 := Tryz.underlying0,
  a0 := Tryz.isAgg0,
  z0 := Tryz.sizeOf0,
  v0 := Tryz.zeroValue0,
  t4 := Tryz.underlying4,
  a4 := Tryz.isAgg4,
  z4 := Tryz.sizeOf4,
  v4 := Tryz.zeroValue4,
  t23 := Tryz.underlying80,
  a23 := Tryz.isAgg80,
  z23 := Tryz.sizeOf80,
  v23 := Tryz.zeroValue80,
  t26 := Tryz.underlying2,
  a26 := Tryz.isAgg2,
  z26 := Tryz.sizeOf2,
  v26 := Tryz.zeroValue2,
  t27 := Tryz.underlying93,
  a27 := Tryz.isAgg93,
  z27 := Tryz.sizeOf93,
  v27 := Tryz.zeroValue93,
  t28 := Tryz.underlying94,
  a28 := Tryz.isAgg94,
  z28 := Tryz.sizeOf94,
  v28 := Tryz.zeroValue94,
  t33 := Tryz.underlying46,
  a33 := Tryz.isAgg46,
  z33 := Tryz.sizeOf46,
  v33 := Tryz.zeroValue46 }
def sortedA_ren : Go.Shelf.Ren := ⟨fun | 6 => 38 | 8 => 59 | 9 => 60 | 11 => 86 | 13 => 88 | 12 => 87 | 23 => 115 | 24 => 116 | 14 => 106 | 15 => 107 | 16 => 108 | 17 => 109 | 18 => 110 | 19 => 111 | 20 => 112 | 21 => 113 | 22 => 114 | 25 => 129 | 26 => 130 | 27 => 131 | 28 => 132 | 29 => 133 | 30 => 134 | 31 => 138 | n => n, fun | 26 => 2 | 28 => 94 | 24 => 30 | 0 => 0 | 3 => 3 | 37 => 139 | 48 => 158 | 50 => 160 | 4 => 4 | 40 => 151 | 39 => 150 | 45 => 82 | 5 => 5 | 9 => 9 | 51 => 176 | 55 => 180 | 57 => 184 | 58 => 44 | 33 => 46 | n => n, fun | n => n⟩
theorem sortedA : SlLaysZI.n6 Tryz.prog sortedA_ren := {
  mixed := by kernel_rfl,
  f6 := ⟨Tryz.f38.name, by decide, Tryz.func38.trans (congrArg some (by kernel_rfl))⟩,
  f8 := ⟨Tryz.f59.name, by decide, Tryz.func59.trans (congrArg some (by kernel_rfl))⟩,
  f11 := ⟨Tryz.f86.name, by decide, Tryz.func86.trans (congrArg some (by kernel_rfl))⟩,
  t0 := Tryz.underlying0,
  a0 := Tryz.isAgg0,
  z0 := Tryz.sizeOf0,
  v0 := Tryz.zeroValue0,
  t24 := Tryz.underlying30,
  a24 := Tryz.isAgg30,
  z24 := Tryz.sizeOf30,
  v24 := Tryz.zeroValue30,
  t26 := Tryz.underlying2,
  a26 := Tryz.isAgg2,
  z26 := Tryz.sizeOf2,
  v26 := Tryz.zeroValue2,
  t28 := Tryz.underlying94,
  a28 := Tryz.isAgg94,
  z28 := Tryz.sizeOf94,
  v28 := Tryz.zeroValue94,
  i26 := by kernel_rfl }
def sortA_ren : Go.Shelf.Ren := ⟨fun | 5 => 60 | 8 => 88 | 7 => 87 | 19 => 115 | 20 => 116 | 10 => 106 | 11 => 107 | 12 => 108 | 13 => 109 | 14 => 110 | 15 => 111 | 16 => 112 | 17 => 113 | 18 => 114 | 30 => 129 | 31 => 130 | 32 => 131 | 33 => 132 | 34 => 133 | 35 => 134 | 40 => 138 | n => n, fun | 23 => 30 | 25 => 2 | 3 => 3 | 32 => 139 | 22 => 30 | 0 => 0 | 44 => 158 | 46 => 160 | 4 => 4 | 36 => 151 | 35 => 150 | 41 => 82 | 5 => 5 | 9 => 9 | 53 => 176 | 57 => 180 | 63 => 184 | 64 => 44 | n => n, fun | n => n⟩
theorem sortA : SlLaysM.n5 Tryz.prog sortA_ren := {
  mixed := by kernel_rfl,
  f5 := ⟨Tryz.f60.name, by decide, Tryz.func60.trans (congrArg some (by kernel_rfl))⟩,
  f7 := ⟨Tryz.f87.name, by decide, Tryz.func87.trans (congrArg some (by kernel_rfl))⟩,
  f8 := Tryz.func88.trans (congrArg some (by kernel_rfl)),
  f10 := ⟨Tryz.f106.name, by decide, Tryz.func106.trans (congrArg some (by kernel_rfl))⟩,
  f11 := ⟨Tryz.f107.name, by decide, Tryz.func107.trans (congrArg some (by kernel_rfl))⟩,
  f12 := ⟨Tryz.f108.name, by decide, Tryz.func108.trans (congrArg some (by kernel_rfl))⟩,
  f13 := ⟨Tryz.f109.name, by decide, Tryz.func109.trans (congrArg some (by kernel_rfl))⟩,
  f14 := ⟨Tryz.f110.name, by decide, Tryz.func110.trans (congrArg some (by kernel_rfl))⟩,
  f15 := ⟨Tryz.f111.name, by decide, Tryz.func111.trans (congrArg some (by kernel_rfl))⟩,
  f16 := ⟨Tryz.f112.name, by decide, Tryz.func112.trans (congrArg some (by kernel_rfl))⟩,
  f17 := ⟨Tryz.f113.name, by decide, Tryz.func113.trans (congrArg some (by kernel_rfl))⟩,
  f18 := ⟨Tryz.f114.name, by decide, Tryz.func114.trans (congrArg some (by kernel_rfl))⟩,
  f19 := Tryz.func115.trans (congrArg some (by kernel_rfl)),
  f20 := Tryz.func116.trans (congrArg some (by kernel_rfl)),
  f30 := ⟨Tryz.f129.name, by decide, Tryz.func129.trans (congrArg some (by kernel_rfl))⟩,
  f31 := Tryz.func130.trans (congrArg some (by kernel_rfl)),
  f32 := Tryz.func131.trans (congrArg some (by kernel_rfl)),
  f33 := ⟨Tryz.f132.name, by decide, Tryz.func132.trans (congrArg some (by kernel_rfl))⟩,
  f34 := ⟨Tryz.f133.name, by decide, Tryz.func133.trans (congrArg some (by kernel_rfl))⟩,
  f35 := ⟨Tryz.f134.name, by decide, Tryz.func134.trans (congrArg some (by kernel_rfl))⟩,
  f40 := ⟨Tryz.f138.name, by decide, Tryz.func138.trans (congrArg some (by kernel_rfl))⟩,
  t0 := Tryz.underlying0,
  a0 := Tryz.isAgg0,
  z0 := Tryz.sizeOf0,
  v0 := Tryz.zeroValue0,
  t3 := Tryz.underlying3,
  a3 := Tryz.isAgg3,
  z3 := Tryz.sizeOf3,
  v3 := Tryz.zeroValue3,
  t4 := Tryz.underlying4,
  a4 := Tryz.isAgg4,
  z4 := Tryz.sizeOf4,
  v4 := Tryz.zeroValue4,
  t5 := Tryz.underlying5,
  a5 := Tryz.isAgg5,
  z5 := Tryz.sizeOf5,
  v5 := Tryz.zeroValue5,
  t9 := Tryz.underlying9,
  a9 := Tryz.isAgg9,
  z9 := Tryz.sizeOf9,
  v9 := Tryz.zeroValue9,
  t22 := Tryz.underlying30,
  a22 := Tryz.isAgg30,
  z22 := Tryz.sizeOf30,
  v22 := Tryz.zeroValue30,
  t23 := Tryz.underlying30,
  a23 := Tryz.isAgg30,
  z23 := Tryz.sizeOf30,
  v23 := Tryz.zeroValue30,
  t25 := Tryz.underlying2,
  a25 := Tryz.isAgg2,
  z25 := Tryz.sizeOf2,
  v25 := Tryz.zeroValue2,
  t32 := Tryz.underlying139,
  a32 := Tryz.isAgg139,
  z32 := Tryz.sizeOf139,
  v32 := Tryz.zeroValue139,
  t35 := Tryz.underlying150,
  a35 := Tryz.isAgg150,
  z35 := Tryz.sizeOf150,
  v35 := Tryz.zeroValue150,
  t36 := Tryz.underlying151,
  a36 := Tryz.isAgg151,
  z36 := Tryz.sizeOf151,
  v36 := Tryz.zeroValue151,
  t41 := Tryz.underlying82,
  a41 := Tryz.isAgg82,
  z41 := Tryz.sizeOf82,
  v41 := Tryz.zeroValue82,
  t44 := Tryz.underlying158,
  a44 := Tryz.isAgg158,
  z44 := Tryz.sizeOf158,
  v44 := Tryz.zeroValue158,
  t46 := Tryz.underlying160,
  a46 := Tryz.isAgg160,
  z46 := Tryz.sizeOf160,
  v46 := Tryz.zeroValue160,
  t53 := Tryz.underlying176,
  a53 := Tryz.isAgg176,
  z53 := Tryz.sizeOf176,
  v53 := Tryz.zeroValue176,
  t57 := Tryz.underlying180,
  a57 := Tryz.isAgg180,
  z57 := Tryz.sizeOf180,
  v57 := Tryz.zeroValue180,
  t63 := Tryz.underlying184,
  a63 := Tryz.isAgg184,
  z63 := Tryz.sizeOf184,
  v63 := Tryz.zeroValue184,
  t64 := Tryz.underlying44,
  a64 := Tryz.isAgg44,
  z64 := Tryz.sizeOf44,
  v64 := Tryz.zeroValue44 }

theorem sortsA (m : Nat) : AnyZI.SortsIn Tryz.prog sortedA_ren Fence.wide m :=
  ⟨fun blk off cap ss W hH hblk hsz => callsIn_wide.2 (AnyM.slices_Sort_int sortA blk off cap ss W hH hblk hsz), fun p cap W => callsIn_wide.2 (AnyM.slices_Sort_int_none sortA p cap W)⟩
theorem mapsKeys (b : Nat) (w : World) : Calls Tryz.prog 39 #[.map (some b)] w fun e w' => e = .returned (.func (.func 61) #[] #[.pointer (some ⟨w.heap.size, 0, none⟩)]) ∧ w' = w.alloc (.cells #[.map (some b)] 80) :=
  callsIn_wide.1 (AnyZI.keys_in keysA Fence.wide 5 trivial rfl (some b) w)
theorem ownsRow_ids {w : World} {base : Nat} {v : Value} {ss : List Int} {n : Nat} (hn : n = ss.length) (h : w.ownsRow base 2 1 v n (ss.map encZ)) : IdsR (fun x => base ≤ x) w v ss := by
  subst hn
  have key : ∃ ob, OwnS w 2 1 v ss.length (ss.map (Value.int .i64 ·)) ob ∧ ∀ g, ob = some g → base ≤ g := by
    rcases h.2 with ⟨rfl, h0⟩ | ⟨g, cap, cur, rfl, hb, hg, h1, h2, h3, h4⟩
    · exact ⟨none, ⟨h.1, .inl ⟨none, rfl, h0, rfl, by simp⟩⟩, by simp⟩
    · exact ⟨some g, ⟨h.1, .inr ⟨g, cap, cur, rfl, rfl, hg, h1, h2, h3, h4⟩⟩, fun x hx => by cases hx; exact hb⟩
  obtain ⟨ob, h1, h2⟩ := key
  exact IdsO.toR h1 h2
set_option maxRecDepth 100000 in
set_option maxHeartbeats 2000000 in
theorem slicesSorted (b n : Nat) (f : Int → Option Value) (w : World) (h : MapI w b f n) (hn : n ≤ 4096) (hw : ∀ x, f x ≠ none → (Lit.int .i64 x).wf = true) :
    Calls Tryz.prog 38 #[.func (.func 61) #[] #[.pointer (some ⟨w.heap.size, 0, none⟩)]] (w.alloc (.cells #[.map (some b)] 80)) fun e w' => ∃ v L, e = .returned v ∧ RSet L (fun y => f y ≠ none) ∧ IdsR (fun x => w.heap.size ≤ x) w' v L ∧ Grow w w' := by
  have hmx : n ≤ maxLen := by unfold maxLen; omega
  obtain ⟨D0, hown, hsz, hk⟩ := h.owns (P := Tryz.prog) (k := 2) Tryz.underlying2 hmx hw
  have hseq : SeqGives Fence.wide 2 Tryz.prog 61 #[.pointer (some ⟨w.heap.size, 0, none⟩)] encZ (fun ss => ss.Perm (intKeys D0)) (Maps.size D0) (w.alloc (.cells #[.map (some b)] 80)) :=
    AnyZI.keys_gives (ρ := keysA_ren) { keysA with } Fence.wide _ trivial rfl (by omega) w.heap.size b n D0 _ (by simp) (by simp) (hown.alloc _)
  have cS := AnyZI.sorted_in sortedA Fence.wide 5 trivial trivial trivial trivial rfl (by omega) (sortsA _) (enters_of Tryz.func60 (by kernel_rfl) rfl) 61 #[.pointer (some ⟨w.heap.size, 0, none⟩)] trivial (enters_of Tryz.func61 (by kernel_rfl) rfl) _ _ (Nat.le_trans hsz hmx) (by omega) _ hseq
  refine (callsIn_wide.1 cS).mono ?_
  rintro e w' ⟨v, ss, rfl, hS, hrow, -, hb⟩
  obtain ⟨h1, h2⟩ := hk ss hS
  refine ⟨v, _, rfl, rset_sorted h1 h2, (ownsRow_ids (by simp) hrow).sub (fun x hx => by simp at hx; omega) (fun _ _ _ h => h), ?_⟩
  exact ((Grow.rfl' w).allocd _).step hb
end Go.Hg
