/- graph.props, maySetProp; graph.setProp; graph.node, edge of a graph that is only read; Nodes, Edges: copies; graph.Node, Edge: what has an Id, copied; graph.Scan, some, Out, In; The kit's contracts of the library at this seat's functions (ShelfU). Conditions: those that each theorem names. -/
import Derived.WalkKit
import Derived.WalkSpells
import Derived.WalkLawsBesides
import Derived.Lib.Hide
import Derived.BigQuiet
import Derived.Deep.LoopGhost
import Derived.Maps.OwnOps
import Derived.Maps.OwnSet
import Derived.Carry
import Derived.Test.YtfachjfohhhgeaaGreatRows
import Derived.Lib.SlKeysI
import Derived.Lib.SliceRun
import Derived.WideMake
import Derived.Deep.RegionLaw
import Derived.Lib.Overlaps
import Derived.Deep.RegionHeld3
import Derived.Laws.ResultCell
import Derived.Shelf.SlSortCmp.WholeK
import Derived.Test.YtfachjfohhhgeaaGreatUdD
namespace Go.Hg
open Go.RowKit Go.Proofs

def PropsAt (G : PGraph) (on oe : Option Nat) (id : Int) (v : Value) : Prop :=
  (hasN G id = true ∧ ∃ (i : Nat) (x : PNode) (g : Nat), G.nodes[i]? = some x ∧ x.id = id ∧ on = some g ∧ v = .pointer (some ⟨g, i * 3 + 2, none⟩)) ∨
  (hasN G id = false ∧ hasE G id = true ∧ ∃ (i : Nat) (x : PEdge) (g : Nat), G.edges[i]? = some x ∧ x.id = id ∧ oe = some g ∧ v = .pointer (some ⟨g, i * 5 + 4, none⟩)) ∨
  (hasN G id = false ∧ hasE G id = false ∧ v = .pointer none)

theorem OwnL.sliceAt {α : Type} {w : World} {E : TypeId} {sz : Nat} {R : α → List Value → Prop} {v : Value} {l : List α} {ob : Option Nat} (h : OwnL w E sz R v l ob) {i : Nat} (hi : i < l.length) :
    ∃ g cap, v = .slice (some ⟨g, 0, none⟩) l.length cap ∧ ob = some g := by
  obtain ⟨rows, h1, h2, h3⟩ := h
  obtain ⟨g, cap, hv, ho, _⟩ := h3.cell (by omega)
  exact ⟨g, cap, hv, ho⟩

set_option maxRecDepth 100000 in
set_option maxHeartbeats 1000000 in
theorem graphProps (S R : Nat → Prop) (B : Nat) (G : PGraph) (nv ev : Value) (on oe : Option Nat) (id : Int) (w : World) (h : GraphOk 101 S w B G) (hG : GInv G)
    (hb : w.heap[B]? = some (.cells #[nv, ev, .int .i64 G.next] 101 (0, 0))) (h7 : OwnL w 89 3 (RNode R w) nv G.nodes on) (h8 : OwnL w 91 5 (REdge R w) ev G.edges oe) :
    Calls Tryz.prog 116 #[.pointer (some ⟨B, 0, none⟩), .int .i64 id] w fun e w' => ∃ v, e = .returned v ∧ PropsAt G on oe id v ∧ Grow w w' := by
  have HGR := Lib.hid h; have HI := Lib.hid hG; have H7 := Lib.hid h7; have H8 := Lib.hid h8; have HB := Lib.hid hb
  have hB : B < w.heap.size := blk_lt hb
  clear h hG h7 h8 hb
  go_enter Tryz.func116, Tryz.ntmps116
  go_wp2_with fail
  refine (graphNode_ S B G id _ HGR.out HI.out).mono ?_
  rintro e w2 ⟨i, b, rfl, hbs, hg⟩
  have HBS := Lib.hid hbs; have HG2 := Lib.hid hg
  have e1 := idx_any (fun x : PNode => x.id) hbs
  have HE1 := Lib.hid e1
  have HB2 := Lib.hid ((hg.heapEq hB).trans HB.out)
  clear hbs hg e1
  cases b
  · go_wp2_with fail
    refine (graphEdge_ S B G id _ (HGR.out.grow HG2.out) HI.out).mono ?_
    rintro e w3 ⟨i3, b3, rfl, hbs, hg⟩
    have HBS3 := Lib.hid hbs; have HG3 := Lib.hid (HG2.out.step hg)
    have e1 := idx_any (fun x : PEdge => x.id) hbs
    have HE3 := Lib.hid e1
    have HB3 := Lib.hid ((hg.heapEq (blk_lt HB2.out)).trans HB2.out)
    clear hbs hg e1
    cases b3
    · go_wp2
      go_ret
      exact ⟨_, rfl, .inr (.inr ⟨HE1.out.symm, HE3.out.symm, rfl⟩), HG3.out⟩
    · obtain ⟨x, hx, hxi⟩ := idx_at (fun x : PEdge => x.id) HBS3.out
      have hil : i3 < G.edges.length := (List.getElem?_eq_some_iff.1 hx).1
      have HX := Lib.hid hx; have HXI := Lib.hid hxi
      obtain ⟨g, cap, rfl, rfl⟩ := H8.out.sliceAt hil
      have g1 : w3.cell? ⟨B, 1, none⟩ = some (.slice (some ⟨g, 0, none⟩) G.edges.length cap) := by rw [blk_cell HB3.out]; rfl
      clear hx hxi
      go_wp2
      go_ret
      exact ⟨_, rfl, .inr (.inl ⟨HE1.out.symm, HE3.out.symm, i3, x, g, HX.out, HXI.out, rfl, rfl⟩), HG3.out⟩
  · obtain ⟨x, hx, hxi⟩ := idx_at (fun x : PNode => x.id) HBS.out
    have hil : i < G.nodes.length := (List.getElem?_eq_some_iff.1 hx).1
    have HX := Lib.hid hx; have HXI := Lib.hid hxi
    obtain ⟨g, cap, rfl, rfl⟩ := H7.out.sliceAt hil
    have g0 : w2.cell? ⟨B, 0, none⟩ = some (.slice (some ⟨g, 0, none⟩) G.nodes.length cap) := by rw [blk_cell HB2.out]; rfl
    clear hx hxi
    go_wp2
    go_ret
    exact ⟨_, rfl, .inl ⟨HE1.out.symm, i, x, g, HX.out, HXI.out, rfl, rfl⟩, HG2.out⟩

theorem PropsAt.read {G : PGraph} {R : Nat → Prop} {nv ev : Value} {on oe : Option Nat} {id : Int} {v : Value} {w : World} (h : PropsAt G on oe id v) (hG : GInv G) (h7 : OwnL w 89 3 (RNode R w) nv G.nodes on) (h8 : OwnL w 91 5 (REdge R w) ev G.edges oe) :
    (findP G id = none ∧ v = .pointer none) ∨ ∃ g k ps pv, findP G id = some ps ∧ ps.length ≤ 8 ∧ v = .pointer (some ⟨g, k, none⟩) ∧ (on = some g ∨ oe = some g) ∧ w.cell? ⟨g, k, none⟩ = some pv ∧ w.frozen? ⟨g, k, none⟩ = false ∧ PropsR R w pv ps := by
  rcases h with ⟨hn, i, x, g, hx, hxi, rfl, rfl⟩ | ⟨hn, he, i, x, g, hx, hxi, rfl, rfl⟩ | ⟨hn, he, rfl⟩
  · obtain ⟨r, ⟨pv, rfl, hp⟩, -, hc⟩ := h7.row hx
    have hil : i < G.nodes.length := (List.getElem?_eq_some_iff.1 hx).1
    refine .inr ⟨g, _, x.props, pv, ?_, (hG.nodesB x (List.mem_of_getElem? hx)).2.2, rfl, .inl rfl, by have := hc 2 pv rfl; rwa [Nat.zero_add] at this, (h7.slot hil (by omega)).2, hp⟩
    unfold findP
    rw [find_idx (fun x : PNode => x.id) hG.nodes hx hxi]
  · obtain ⟨r, ⟨pv, rfl, hp⟩, -, hc⟩ := h8.row hx
    have hil : i < G.edges.length := (List.getElem?_eq_some_iff.1 hx).1
    refine .inr ⟨g, _, x.props, pv, ?_, (hG.edgesB x (List.mem_of_getElem? hx)).2.2, rfl, .inr rfl, by have := hc 4 pv rfl; rwa [Nat.zero_add] at this, (h8.slot hil (by omega)).2, hp⟩
    unfold findP
    rw [find_none (fun x : PNode => x.id) hn, find_idx (fun x : PEdge => x.id) hG.edges hx hxi]
  · refine .inl ⟨?_, rfl⟩
    unfold findP
    rw [find_none (fun x : PNode => x.id) hn, find_none (fun x : PEdge => x.id) he]

set_option maxRecDepth 100000 in
set_option maxHeartbeats 2000000 in
theorem maySetProp (S SC : Nat → Prop) (B : Nat) (G : PGraph) (nv ev rv iv : Value) (c : PCat) (o : POp) (w : World) (h : GraphOk 101 S w B G) (hG : GInv G) (hc : CatR SC w nv ev rv iv c) (hk : o.kind = 5) :
    Calls Tryz.prog 90 #[.pointer (some ⟨B, 0, none⟩), c.arg nv ev rv iv, o.args] w fun e w' => e = .returned (.int .i64 (mayG c o G)) ∧ Grow w w' := by
  have HGR := Lib.hid h; have HI := Lib.hid hG
  have HM := Lib.hid (show mayG c o G = (if ¬ NameOk o.name ∨ (¬ GoodV o.v ∧ ¬ BlankV o.v) then 142 else match findP G o.id with | none => 60 | some ps => if 8 < (setP ps o.name o.v).length then 3 else 0) by unfold mayG; rw [if_neg (by omega), if_neg (by omega), if_neg (by omega), if_neg (by omega), if_pos hk]; rfl)
  obtain ⟨na, nc, ea, ec, ra, rc, ia, ic, rfl, rfl, rfl, rfl⟩ := hc.slices
  have HW := Lib.hid (show ∀ o1 o2, Grow w ((w.alloc o1).alloc o2) from fun o1 o2 => ((Grow.rfl' w).allocd o1).allocd o2)
  have HOP := Lib.hid (show ∀ o1, OpAt ((w.alloc o1).alloc (.cells o.cells.toArray 35)) (w.heap.size + 1) o from fun o1 => by
    have := heap_alloc_new (w.alloc o1) (.cells o.cells.toArray 35)
    rw [World.size_alloc] at this
    exact this)
  obtain ⟨nv, ev, R, on, oe, h1, h2, h3, h4, h5, h6, h7, h8⟩ := h.parts (by decide) (by decide)
  have H7 := Lib.hid h7; have H8 := Lib.hid h8; have HB := Lib.hid h1
  have hB : B < w.heap.size := blk_lt h1
  clear h hc hG hk h1 h2 h3 h4 h5 h6 h7 h8
  go_enter Tryz.func90, Tryz.ntmps90
  go_wp2_with fail
  refine (graphProps S R B G nv ev on oe o.id _ (HGR.out.grow (HW.out _ _)) HI.out (((HW.out _ _).heapEq hB).trans HB.out) (H7.out.nodesMod (Mod.of_grow (F := fun _ => False) (HW.out _ _)) (fun _ _ => id) (fun _ _ => id)) (H8.out.edgesMod (Mod.of_grow (F := fun _ => False) (HW.out _ _)) (fun _ _ => id) (fun _ _ => id))).mono ?_
  rintro e w2 ⟨pv, rfl, hpa, hg⟩
  have HG2 := Lib.hid ((HW.out _ _).step hg); have HPA := Lib.hid hpa
  have HOP2 := Lib.hid ((HOP.out _).grow hg)
  clear hpa hg
  obtain ⟨hlt, -, -, -, -, -, c5, c6, c7, c8, -⟩ := HOP2.out.at
  have HRD := Lib.hid (HPA.out.read HI.out (H7.out.nodesMod (Mod.of_grow (F := fun _ => False) HG2.out) (fun _ _ => id) (fun _ _ => id)) (H8.out.edgesMod (Mod.of_grow (F := fun _ => False) HG2.out) (fun _ _ => id) (fun _ _ => id)))
  rcases HRD.out with ⟨hf, rfl⟩ | ⟨g, k, ps, pv', hf, hl8, rfl, hon, hcell, hfz, hp⟩
  · have HF := Lib.hid hf; clear hf
    go_wp2_with fail
    refine (valName o.name _).mono ?_
    rintro e w3 ⟨rfl, rfl⟩
    cases hn : decide (NameOk o.name)
    · have HNN := Lib.hid (of_decide_eq_false hn); clear hn
      go_wp2
      go_ret
      exact ⟨by rw [HM.out, if_pos (.inl HNN.out)]; rfl, HG2.out⟩
    · have HNN := Lib.hid (of_decide_eq_true hn); clear hn
      go_wp2_with fail
      refine (valGood o.v _).mono ?_
      rintro e w4 ⟨rfl, hg4⟩
      have HG4 := Lib.hid (HG2.out.step hg4)
      have HOP4 := Lib.hid (HOP2.out.grow hg4)
      have HG24 := Lib.hid hg4
      clear hlt c5 c6 c7 c8 hg4
      obtain ⟨hlt, -, -, -, -, -, c5, c6, c7, c8, -⟩ := HOP4.out.at
      cases hgd : decide (GoodV o.v)
      · have HGD := Lib.hid (of_decide_eq_false hgd); clear hgd
        by_cases hbl : BlankV o.v
        · have HBL := Lib.hid hbl
          obtain ⟨q1, q2, q3⟩ := hbl
          rw [q1] at c6; rw [q2] at c7; rw [q3] at c8
          clear q1 q2 q3
          go_wp2
          go_ret
          exact ⟨by rw [HM.out, if_neg (by intro h; rcases h with h | h; exact h HNN.out; exact h.2 HBL.out), HF.out]; rfl, HG4.out⟩
        · have HBL := Lib.hid hbl; clear hbl
          go_wp2
          all_goals
            go_ret
            first
              | exact ⟨by rw [HM.out, if_pos (.inr ⟨HGD.out, HBL.out⟩)]; rfl, HG4.out⟩
              | exact (HBL.out (by simp_all [BlankV])).elim
      · have HGD := Lib.hid (of_decide_eq_true hgd); clear hgd
        go_wp2
        go_ret
        exact ⟨by rw [HM.out, if_neg (by intro h; rcases h with h | h; exact h HNN.out; exact h.1 HGD.out), HF.out]; rfl, HG4.out⟩
  · have HF := Lib.hid hf; have HL8 := Lib.hid hl8
    have HCELL2 := Lib.hid hcell; have HP2 := Lib.hid hp
    clear hf hcell hfz hp hon
    go_wp2_with fail
    refine (valName o.name _).mono ?_
    rintro e w3 ⟨rfl, rfl⟩
    cases hn : decide (NameOk o.name)
    · have HNN := Lib.hid (of_decide_eq_false hn); clear hn
      go_wp2
      go_ret
      exact ⟨by rw [HM.out, if_pos (.inl HNN.out)]; rfl, HG2.out⟩
    · have HNN := Lib.hid (of_decide_eq_true hn); clear hn
      go_wp2_with fail
      refine (valGood o.v _).mono ?_
      rintro e w4 ⟨rfl, hg4⟩
      have HG4 := Lib.hid (HG2.out.step hg4)
      have HOP4 := Lib.hid (HOP2.out.grow hg4)
      have HG24 := Lib.hid hg4
      clear hlt c5 c6 c7 c8 hg4
      obtain ⟨hlt, -, -, -, -, -, c5, c6, c7, c8, -⟩ := HOP4.out.at
      have HCELL := Lib.hid ((HG24.out.cell (p := ⟨g, k, none⟩) (cell_lt HCELL2.out)).trans HCELL2.out)
      have HPR := Lib.hid (HP2.out.grow HG24.out)
      cases hgd : decide (GoodV o.v)
      · have HGD := Lib.hid (of_decide_eq_false hgd); clear hgd
        by_cases hbl : BlankV o.v
        · have HBL := Lib.hid hbl
          have HIF := Lib.hid (show ¬ (¬ NameOk o.name ∨ (¬ GoodV o.v ∧ ¬ BlankV o.v)) by intro h; rcases h with h | h; exact h HNN.out; exact h.2 HBL.out)
          obtain ⟨q1, q2, q3⟩ := hbl
          rw [q1] at c6; rw [q2] at c7; rw [q3] at c8
          clear q1 q2 q3
          go_wp2_with fail
          obtain ⟨pa, pc, rfl⟩ := HPR.out.isSlice
          have HS := Lib.hid (show ∀ w', Grow w4 w' → (w'.cell? ⟨g, k, none⟩ = some (.slice pa ps.length pc) ∧ w'.cell? ⟨w.heap.size + 1, 5, none⟩ = some (.string o.name) ∧ w'.cell? ⟨w.heap.size + 1, 6, none⟩ = some (.int .i64 o.v.kind) ∧ w'.cell? ⟨w.heap.size + 1, 7, none⟩ = some (.int .i64 o.v.n) ∧ w'.cell? ⟨w.heap.size + 1, 8, none⟩ = some (.string o.v.s)) from fun w' hg => by
            obtain ⟨-, -, -, -, -, -, d5, d6, d7, d8, -⟩ := (HOP4.out.grow hg).at
            exact ⟨(hg.cell (p := ⟨g, k, none⟩) (cell_lt HCELL.out)).trans HCELL.out, d5, d6, d7, d8⟩)
          have hcl4 := HCELL.out
          clear c6 c7 c8 c5
          obtain ⟨-, -, -, -, -, -, c5, c6, c7, c8, -⟩ := HOP4.out.at
          by_cases h8 : 8 < (setP ps o.name o.v).length
          all_goals
            have H8L := Lib.hid h8
            have h8' : decide (8 < ((setP ps o.name o.v).length : Int)) = decide (8 < (setP ps o.name o.v).length) := by
              by_cases h : 8 < (setP ps o.name o.v).length <;> simp [h] <;> omega
            clear h8
            go_wp2_with fail
            go_region_held3 (fun w' => w'.cell? ⟨g, k, none⟩ = some (.slice pa ps.length pc) ∧ w'.cell? ⟨w.heap.size + 1, 5, none⟩ = some (.string o.name) ∧ w'.cell? ⟨w.heap.size + 1, 6, none⟩ = some (.int .i64 o.v.kind) ∧ w'.cell? ⟨w.heap.size + 1, 7, none⟩ = some (.int .i64 o.v.n) ∧ w'.cell? ⟨w.heap.size + 1, 8, none⟩ = some (.string o.v.s)) (first | exact HS.out _ ((Grow.rfl' w4).drewd) | exact HS.out _ (((Grow.rfl' w4).drewd).step hg5)) (first | (go_at_call 118; refine (valSet R _ ps o.name o.v _ (HPR.out.grow ((Grow.rfl' w4).drewd)) (by omega)).mono ?_; rintro e w5 ⟨v5, rfl, hp5, hg5⟩; have HG5 := Lib.hid hg5; obtain ⟨a5, k5, rfl⟩ := hp5.isSlice; clear hp5))
            go_wp2
            go_ret
            refine ⟨?_, HG4.out.step (((Grow.rfl' w4).drewd).step HG5.out)⟩
            have e : mayG c o G = (if 8 < (setP ps o.name o.v).length then 3 else 0) := by rw [HM.out, if_neg HIF.out, HF.out]
            rw [e]
            first | (rw [if_pos H8L.out]; rfl) | (rw [if_neg H8L.out]; rfl)
        · have HBL := Lib.hid hbl
          have hnb : ¬ (o.v.kind = 0 ∧ o.v.n = 0 ∧ o.v.s = ByteArray.empty) := hbl
          clear hbl
          by_cases q1 : o.v.kind = 0
          · by_cases q2 : o.v.n = 0
            · have q3 : ¬ o.v.s = ByteArray.empty := fun h => hnb ⟨q1, q2, h⟩
              rw [q1] at c6; rw [q2] at c7
              clear hnb q1 q2
              have q3' : decide (o.v.s = ByteArray.empty) = false := decide_eq_false q3
              go_wp2
              go_ret
              exact ⟨by rw [HM.out, if_pos (.inr ⟨HGD.out, HBL.out⟩)]; rfl, HG4.out⟩
            · rw [q1] at c6
              have q2' : (o.v.n == 0) = false := by simpa using q2
              clear hnb q1
              go_wp2
              go_ret
              exact ⟨by rw [HM.out, if_pos (.inr ⟨HGD.out, HBL.out⟩)]; rfl, HG4.out⟩
          · have q1' : (o.v.kind == 0) = false := by simpa using q1
            clear hnb
            go_wp2
            go_ret
            exact ⟨by rw [HM.out, if_pos (.inr ⟨HGD.out, HBL.out⟩)]; rfl, HG4.out⟩
      · have HGD := Lib.hid (of_decide_eq_true hgd); clear hgd
        have HIF := Lib.hid (show ¬ (¬ NameOk o.name ∨ (¬ GoodV o.v ∧ ¬ BlankV o.v)) by intro h; rcases h with h | h; exact h HNN.out; exact h.1 HGD.out)
        go_wp2_with fail
        obtain ⟨pa, pc, rfl⟩ := HPR.out.isSlice
        have HS := Lib.hid (show ∀ w', Grow w4 w' → (w'.cell? ⟨g, k, none⟩ = some (.slice pa ps.length pc) ∧ w'.cell? ⟨w.heap.size + 1, 5, none⟩ = some (.string o.name) ∧ w'.cell? ⟨w.heap.size + 1, 6, none⟩ = some (.int .i64 o.v.kind) ∧ w'.cell? ⟨w.heap.size + 1, 7, none⟩ = some (.int .i64 o.v.n) ∧ w'.cell? ⟨w.heap.size + 1, 8, none⟩ = some (.string o.v.s)) from fun w' hg => by
          obtain ⟨-, -, -, -, -, -, d5, d6, d7, d8, -⟩ := (HOP4.out.grow hg).at
          exact ⟨(hg.cell (p := ⟨g, k, none⟩) (cell_lt HCELL.out)).trans HCELL.out, d5, d6, d7, d8⟩)
        have hcl4 := HCELL.out
        clear c6 c7 c8 c5
        obtain ⟨-, -, -, -, -, -, c5, c6, c7, c8, -⟩ := HOP4.out.at
        by_cases h8 : 8 < (setP ps o.name o.v).length
        all_goals
          have H8L := Lib.hid h8
          have h8' : decide (8 < ((setP ps o.name o.v).length : Int)) = decide (8 < (setP ps o.name o.v).length) := by
            by_cases h : 8 < (setP ps o.name o.v).length <;> simp [h] <;> omega
          clear h8
          go_wp2_with fail
          go_region_held3 (fun w' => w'.cell? ⟨g, k, none⟩ = some (.slice pa ps.length pc) ∧ w'.cell? ⟨w.heap.size + 1, 5, none⟩ = some (.string o.name) ∧ w'.cell? ⟨w.heap.size + 1, 6, none⟩ = some (.int .i64 o.v.kind) ∧ w'.cell? ⟨w.heap.size + 1, 7, none⟩ = some (.int .i64 o.v.n) ∧ w'.cell? ⟨w.heap.size + 1, 8, none⟩ = some (.string o.v.s)) (first | exact HS.out _ ((Grow.rfl' w4).drewd) | exact HS.out _ (((Grow.rfl' w4).drewd).step hg5)) (first | (go_at_call 118; refine (valSet R _ ps o.name o.v _ (HPR.out.grow ((Grow.rfl' w4).drewd)) (by omega)).mono ?_; rintro e w5 ⟨v5, rfl, hp5, hg5⟩; have HG5 := Lib.hid hg5; obtain ⟨a5, k5, rfl⟩ := hp5.isSlice; clear hp5))
          go_wp2
          go_ret
          refine ⟨?_, HG4.out.step (((Grow.rfl' w4).drewd).step HG5.out)⟩
          have e : mayG c o G = (if 8 < (setP ps o.name o.v).length then 3 else 0) := by rw [HM.out, if_neg HIF.out, HF.out]
          rw [e]
          first | (rw [if_pos H8L.out]; rfl) | (rw [if_neg H8L.out]; rfl)
end Go.Hg

namespace Go.Hg
open Go.RowKit Go.Proofs

theorem flatten_set1 {α : Type} : ∀ (rows : List (List α)) (sz i t : Nat) (r : List α) (u : α), (∀ r ∈ rows, r.length = sz) → rows[i]? = some r → t < sz → rows.flatten.set (i * sz + t) u = (rows.set i (r.set t u)).flatten
  | [], sz, i, t, r, u, _, h, _ => by simp at h
  | r0 :: rows, sz, 0, t, r, u, h0, h, ht => by
    simp at h; subst h
    have h1 : r0.length = sz := h0 r0 (by simp)
    simp [List.set_append_left _ _ (show t < r0.length by omega)]
  | r0 :: rows, sz, i + 1, t, r, u, h0, h, ht => by
    have h1 : r0.length = sz := h0 r0 (by simp)
    have ih := flatten_set1 rows sz i t r u (fun r hr => h0 r (by simp [hr])) (by simpa using h) ht
    rw [List.flatten_cons, List.set_append_right _ _ (by rw [h1, Nat.succ_mul]; omega)]
    rw [show (i + 1) * sz + t - r0.length = i * sz + t by rw [h1, Nat.succ_mul]; omega, ih]
    simp
theorem OwnL.setOne {α : Type} {w : World} {E : TypeId} {sz : Nat} {R R' : α → List Value → Prop} {v : Value} {l : List α} {g i t : Nat} {x x' : α} {u : Value} (h : OwnL w E sz R v l (some g)) (hi : l[i]? = some x) (ht : t < sz)
    (hx : ∀ r, R x r → R' x' (r.set t u)) (hR : ∀ (j : Nat) y r, j ≠ i → l[j]? = some y → R y r → R' y r) : OwnL (w.setCell ⟨g, i * sz + t, none⟩ u) E sz R' v (l.set i x') (some g) := by
  obtain ⟨rows, h1, hlen, h2, h3⟩ := h.rowLen
  have hil : i < l.length := (List.getElem?_eq_some_iff.1 hi).1
  have hr : rows[i]? = some (rows[i]'(by omega)) := List.getElem?_eq_getElem _
  refine ⟨rows.set i ((rows[i]'(by omega)).set t u), by simp [h1], fun j y r hj hr' => ?_, ?_⟩
  · rw [List.getElem?_set] at hj hr'
    by_cases hij : i = j
    · subst hij
      rw [if_pos rfl, if_pos hil] at hj
      rw [if_pos rfl, if_pos (by omega)] at hr'
      cases hj; cases hr'
      obtain ⟨a, b⟩ := h2 i x _ hi hr
      exact ⟨hx _ a, by rw [List.length_set]; exact b⟩
    · rw [if_neg hij] at hj hr'
      obtain ⟨a, b⟩ := h2 j y r hj hr'
      exact ⟨hR j _ _ (fun e => hij e.symm) hj a, b⟩
  · rw [← flatten_set1 rows sz i t _ u hlen hr ht, List.length_set]
    exact h3.stored rfl _ _

theorem setProp_close {S R : Nat → Prop} {T : TypeId} {w w5 : World} {B : Nat} {G : PGraph} {nv ev : Value} {on oe : Option Nat} {o : POp} {g k : Nat} {ps : List PProp} {v5 : Value} (hG : GInv G)
    (h1 : w.heap[B]? = some (.cells #[nv, ev, .int .i64 G.next] T (0, 0))) (h2 : S B) (h3 : ¬ R B) (h4 : ∀ b, R b → S b ∧ b < w.heap.size) (h5 : ∀ g, on = some g → S g ∧ ¬ R g ∧ g ≠ B ∧ g < w.heap.size ∧ oe ≠ some g)
    (h6 : ∀ g, oe = some g → S g ∧ ¬ R g ∧ g ≠ B ∧ g < w.heap.size ∧ on ≠ some g) (h7 : OwnL w 89 3 (RNode R w) nv G.nodes on) (h8 : OwnL w 91 5 (REdge R w) ev G.edges oe)
    (hpa : PropsAt G on oe o.id (.pointer (some ⟨g, k, none⟩))) (hf : findP G o.id = some ps) (hg : Grow w w5) (hp : PropsR (fun b => w.heap.size ≤ b) w5 v5 (setP ps o.name o.v)) :
    GraphOk T (fun b => S b ∨ w.heap.size ≤ b) (w5.setCell ⟨g, k, none⟩ v5) B (setPropG o G) ∧ Mod S w (w5.setCell ⟨g, k, none⟩ v5) := by
  have hgw : g < w.heap.size ∧ S g ∧ ¬ R g ∧ g ≠ B := by
    rcases hpa with ⟨-, i, x, g', -, -, ho, e⟩ | ⟨-, -, i, x, g', -, -, ho, e⟩ | ⟨-, -, e⟩
    · simp only [Value.pointer.injEq, Option.some.injEq, Addr.mk.injEq, and_true] at e
      obtain ⟨rfl, rfl⟩ := e
      exact ⟨(h5 _ ho).2.2.2.1, (h5 _ ho).1, (h5 _ ho).2.1, (h5 _ ho).2.2.1⟩
    · simp only [Value.pointer.injEq, Option.some.injEq, Addr.mk.injEq, and_true] at e
      obtain ⟨rfl, rfl⟩ := e
      exact ⟨(h6 _ ho).2.2.2.1, (h6 _ ho).1, (h6 _ ho).2.1, (h6 _ ho).2.2.1⟩
    · simp at e
  obtain ⟨hgw, hSg, hRg, hgB⟩ := hgw
  have m5 : Mod (fun b => b = g) w5 (w5.setCell ⟨g, k, none⟩ v5) := (Mod.rfl' (fun b => b = g) w5).setd (p := ⟨g, k, none⟩) (.inl rfl) v5
  have m6 : Mod (fun b => b = g) w (w5.setCell ⟨g, k, none⟩ v5) := (Mod.of_grow hg).step m5
  have hs5 := hg.size
  have hs6 : (w5.setCell ⟨g, k, none⟩ v5).heap.size = w5.heap.size := by simp
  have hpc := hp.cut
  refine ⟨?_, m6.mono (fun b e => e ▸ hSg)⟩
  have hR' : ∀ b, (R b ∨ (w.heap.size ≤ b ∧ b < w5.heap.size)) → (S b ∨ w.heap.size ≤ b) ∧ b < (w5.setCell ⟨g, k, none⟩ v5).heap.size := by
    rw [hs6]
    intro b hb
    rcases hb with hb | hb
    · exact ⟨.inl (h4 b hb).1, by have := (h4 b hb).2; omega⟩
    · exact ⟨.inr hb.1, hb.2⟩
  have hRn : ∀ b, R b → ¬ (b = g) := fun b hb e => hRg (e ▸ hb)
  have hpg : ∀ b, (w.heap.size ≤ b ∧ b < w5.heap.size) → ¬ (b = g) := fun b hb e => by omega
  have hpv : PropsR (fun b => R b ∨ (w.heap.size ≤ b ∧ b < w5.heap.size)) (w5.setCell ⟨g, k, none⟩ v5) v5 (setP ps o.name o.v) := (hpc.mod m5 hpg).sub (fun b hb => .inr hb)
  have hB : (w5.setCell ⟨g, k, none⟩ v5).heap[B]? = some (.cells #[nv, ev, .int .i64 G.next] T (0, 0)) := (m6.block B (blk_lt h1) (fun e => hgB e.symm)).trans h1
  have hnB : ¬ (R B ∨ (w.heap.size ≤ B ∧ B < w5.heap.size)) := fun h => h.elim h3 (fun h => by have := blk_lt h1; omega)
  have hon : ∀ g, on = some g → (S g ∨ w.heap.size ≤ g) ∧ ¬ (R g ∨ (w.heap.size ≤ g ∧ g < w5.heap.size)) := fun g hg => ⟨.inl (h5 g hg).1, fun h => h.elim (h5 g hg).2.1 (fun h => by have := (h5 g hg).2.2.2.1; omega)⟩
  have hoe : ∀ g, oe = some g → (S g ∨ w.heap.size ≤ g) ∧ ¬ (R g ∨ (w.heap.size ≤ g ∧ g < w5.heap.size)) := fun g hg => ⟨.inl (h6 g hg).1, fun h => h.elim (h6 g hg).2.1 (fun h => by have := (h6 g hg).2.2.2.1; omega)⟩
  have h7' := h7.nodesMod (Mod.of_grow (F := fun _ => False) hg) (fun _ _ => id) (fun _ _ => id)
  have h8' := h8.edgesMod (Mod.of_grow (F := fun _ => False) hg) (fun _ _ => id) (fun _ _ => id)
  rcases hpa with ⟨hn, i, x, g', hx, hxi, ho, e⟩ | ⟨hn, he, i, x, g', hx, hxi, ho, e⟩ | ⟨-, -, e⟩
  · simp only [Value.pointer.injEq, Option.some.injEq, Addr.mk.injEq, and_true] at e
    obtain ⟨rfl, rfl⟩ := e
    subst ho
    have hps : ps = x.props := by
      unfold findP at hf
      rw [find_idx (fun x : PNode => x.id) hG.nodes hx hxi] at hf
      simpa using hf.symm
    subst hps
    unfold setPropG
    rw [if_pos hn]
    refine ⟨nv, ev, fun b => R b ∨ (w.heap.size ≤ b ∧ b < w5.heap.size), some g, oe, hB, .inl h2, hnB, hR', hon, hoe, ?_, ?_⟩
    · show OwnL _ _ _ _ _ (G.nodes.map fun x => if x.id = o.id then (⟨x.id, x.typ, setP x.props o.name o.v⟩ : PNode) else x) _
      rw [map_idx (fun x : PNode => x.id) (fun x : PNode => (⟨x.id, x.typ, setP x.props o.name o.v⟩ : PNode)) hG.nodes hx hxi]
      refine h7'.setOne hx (by omega) (fun r hr => ?_) (fun _ y r _ _ hr => (hr.mod m5 hRn).sub (fun _ h => .inl h))
      obtain ⟨pv, rfl, -⟩ := hr
      exact ⟨v5, rfl, hpv⟩
    · exact h8'.keep (fun b hb => m5.block b (h8'.lt b hb) (fun e => (h6 b hb).2.2.2.2 (by rw [e]))) (fun y r _ hr => (hr.mod m5 hRn).sub (fun _ h => .inl h))
  · simp only [Value.pointer.injEq, Option.some.injEq, Addr.mk.injEq, and_true] at e
    obtain ⟨rfl, rfl⟩ := e
    subst ho
    have hps : ps = x.props := by
      unfold findP at hf
      rw [find_none (fun x : PNode => x.id) hn, find_idx (fun x : PEdge => x.id) hG.edges hx hxi] at hf
      simpa using hf.symm
    subst hps
    unfold setPropG
    rw [if_neg (by rw [hn]; simp)]
    refine ⟨nv, ev, fun b => R b ∨ (w.heap.size ≤ b ∧ b < w5.heap.size), on, some g, hB, .inl h2, hnB, hR', hon, hoe, ?_, ?_⟩
    · exact h7'.keep (fun b hb => m5.block b (h7'.lt b hb) (fun e => (h5 b hb).2.2.2.2 (by rw [e]))) (fun y r _ hr => (hr.mod m5 hRn).sub (fun _ h => .inl h))
    · show OwnL _ _ _ _ _ (G.edges.map fun x => if x.id = o.id then (⟨x.id, x.typ, x.from_, x.to_, setP x.props o.name o.v⟩ : PEdge) else x) _
      rw [map_idx (fun x : PEdge => x.id) (fun x : PEdge => (⟨x.id, x.typ, x.from_, x.to_, setP x.props o.name o.v⟩ : PEdge)) hG.edges hx hxi]
      refine h8'.setOne hx (by omega) (fun r hr => ?_) (fun _ y r _ _ hr => (hr.mod m5 hRn).sub (fun _ h => .inl h))
      obtain ⟨pv, rfl, -⟩ := hr
      exact ⟨v5, rfl, hpv⟩
  · simp at e

set_option maxRecDepth 100000 in
set_option maxHeartbeats 2000000 in
theorem setProp (S : Nat → Prop) (B : Nat) (G : PGraph) (o : POp) (ps : List PProp) (w : World) (h : GraphOk 101 S w B G) (hG : GInv G) (hf : findP G o.id = some ps) :
    Calls Tryz.prog 91 #[.pointer (some ⟨B, 0, none⟩), o.args] w fun e w' => e = .returned (.int .i64 0) ∧ GraphOk 101 (fun b => S b ∨ w.heap.size ≤ b) w' B (setPropG o G) ∧ Mod S w w' := by
  have HGR := Lib.hid h; have HI := Lib.hid hG; have HF := Lib.hid hf
  have HW := Lib.hid (show ∀ o1, Grow w (w.alloc o1) from fun o1 => (Grow.rfl' w).allocd o1)
  have HOP := Lib.hid (show OpAt (w.alloc (.cells o.cells.toArray 35)) w.heap.size o from heap_alloc_new w _)
  obtain ⟨nv, ev, R, on, oe, h1, h2, h3, h4, h5, h6, h7, h8⟩ := h.parts (by decide) (by decide)
  have H2 := Lib.hid h2; have H3 := Lib.hid h3; have H4 := Lib.hid h4; have H5 := Lib.hid h5; have H6 := Lib.hid h6; have H7 := Lib.hid h7; have H8 := Lib.hid h8; have HB := Lib.hid h1
  have hB : B < w.heap.size := blk_lt h1
  clear h hG hf h1 h2 h3 h4 h5 h6 h7 h8
  go_enter Tryz.func91, Tryz.ntmps91
  go_wp2_with fail
  refine (graphProps S R B G nv ev on oe o.id _ (HGR.out.grow (HW.out _)) HI.out (((HW.out _).heapEq hB).trans HB.out) (H7.out.nodesMod (Mod.of_grow (F := fun _ => False) (HW.out _)) (fun _ _ => id) (fun _ _ => id)) (H8.out.edgesMod (Mod.of_grow (F := fun _ => False) (HW.out _)) (fun _ _ => id) (fun _ _ => id))).mono ?_
  rintro e w2 ⟨pv, rfl, hpa, hg⟩
  have HG2 := Lib.hid ((HW.out _).step hg); have HPA := Lib.hid hpa
  have HOP2 := Lib.hid (HOP.out.grow hg)
  clear hpa hg
  have HRD := Lib.hid (HPA.out.read HI.out (H7.out.nodesMod (Mod.of_grow (F := fun _ => False) HG2.out) (fun _ _ => id) (fun _ _ => id)) (H8.out.edgesMod (Mod.of_grow (F := fun _ => False) HG2.out) (fun _ _ => id) (fun _ _ => id)))
  rcases HRD.out with ⟨hf, rfl⟩ | ⟨g, k, ps', pv', hf, hl8, rfl, hon, hcell, hfz, hp⟩
  · rw [HF.out] at hf; cases hf
  obtain rfl : ps = ps' := by rw [HF.out] at hf; simpa using hf
  clear hf
  have HCELL := Lib.hid hcell; have HPR := Lib.hid hp; have HFZ := Lib.hid hfz
  obtain ⟨pa, pc, rfl⟩ := hp.isSlice
  clear hcell hp hfz hon
  have hcl2 := HCELL.out
  have hlt2 := cell_lt hcl2
  have hfz2 := HFZ.out
  obtain ⟨hltb, -, -, -, -, -, c5, c6, c7, c8, -⟩ := HOP2.out.at
  go_wp2_with fail
  go_region_with (first | (go_at_call 118; refine (valSet R _ ps o.name o.v _ (HPR.out.grow ((Grow.rfl' w2).drewd)) (by omega)).mono ?_; rintro e w5 ⟨v5, rfl, hp5, hg5⟩; have HG5 := Lib.hid hg5; have HP5 := Lib.hid hp5; obtain ⟨a5, k5, rfl⟩ := hp5.isSlice; have hq5 : w5.cell? ⟨g, k, none⟩ = some (.slice pa ps.length pc) := (hg5.cell (p := ⟨g, k, none⟩) hlt2).trans hcl2; have hz5 : w5.frozen? ⟨g, k, none⟩ = false := (World.frozen?_of_block (w := w2.drew) (hg5.heapEq hlt2)).trans hfz2; have hl5 := cell_lt hq5; clear hp5 hg5))
  all_goals
    go_wp2
    go_ret
    exact ⟨rfl, setProp_close HI.out HB.out H2.out H3.out H4.out H5.out H6.out H7.out H8.out HPA.out HF.out (HG2.out.step (((Grow.rfl' w2).drewd).step HG5.out)) (HP5.out.sub (fun b hb => Nat.le_trans HG2.out.size hb))⟩
end Go.Hg

namespace Go.Hg
open Go.RowKit Go.Proofs

def GraphRd (T : TypeId) (S : Nat → Prop) (w : World) (B : Nat) (G : PGraph) : Prop :=
  ∃ nv ev : Value, w.heap[B]? = some (.cells #[nv, ev, .int .i64 G.next] T (0, 0)) ∧ NodesR S w nv G.nodes ∧ EdgesR S w ev G.edges
theorem GraphOk.rd {T : TypeId} {S : Nat → Prop} {w : World} {B : Nat} {G : PGraph} (h : GraphOk T S w B G) : GraphRd T S w B G := by
  obtain ⟨nv, ev, R, on, oe, h1, h2, h3, h4, h5, h6, h7, h8⟩ := h
  exact ⟨nv, ev, h1, SlR.sub (h7.toSl (S := S) (fun g hg => (h5 g hg).1)) (fun _ h => h) (fun x r _ hR => hR.sub (fun b hb => (h4 b hb).1)), SlR.sub (h8.toSl (S := S) (fun g hg => (h6 g hg).1)) (fun _ h => h) (fun x r _ hR => hR.sub (fun b hb => (h4 b hb).1))⟩
theorem GraphRd.grow {T : TypeId} {S : Nat → Prop} {w w' : World} {B : Nat} {G : PGraph} (h : GraphRd T S w B G) (g : Grow w w') : GraphRd T S w' B G := by
  obtain ⟨nv, ev, h1, h2, h3⟩ := h
  exact ⟨nv, ev, (g.heapEq (blk_lt h1)).trans h1, h2.grow g, h3.grow g⟩
theorem GraphRd.read {T : TypeId} {S : Nat → Prop} {w : World} {B : Nat} {G : PGraph} (h : GraphRd T S w B G) :
    ∃ na nc ea ec, B < w.heap.size ∧ w.cell? ⟨B, 0, none⟩ = some (.slice na G.nodes.length nc) ∧ w.cell? ⟨B, 1, none⟩ = some (.slice ea G.edges.length ec) ∧ w.cell? ⟨B, 2, none⟩ = some (.int .i64 G.next) ∧
      NodesR S w (.slice na G.nodes.length nc) G.nodes ∧ EdgesR S w (.slice ea G.edges.length ec) G.edges := by
  obtain ⟨nv, ev, h1, hn, he⟩ := h
  obtain ⟨na, nc, rfl, _⟩ := SlR.open hn
  obtain ⟨ea, ec, rfl, _⟩ := SlR.open he
  exact ⟨na, nc, ea, ec, blk_lt h1, by rw [blk_cell h1]; rfl, by rw [blk_cell h1]; rfl, by rw [blk_cell h1]; rfl, hn, he⟩

theorem OwnL.zip {α : Type} {w : World} {E : TypeId} {sz : Nat} {R : α → List Value → Prop} {v : Value} {l : List α} {ob : Option Nat} (R' : Nat → α → List Value → Prop) (h : OwnL w E sz R v l ob) (hR : ∀ (j : Nat) x r, l[j]? = some x → R x r → R' j x r) :
    OwnL w E sz (fun p r => R' p.2 p.1 r) v l.zipIdx ob := by
  obtain ⟨rows, h1, h2, h3⟩ := h
  refine ⟨rows, by simp [h1], fun k x r hk hr => ?_, by simpa using h3⟩
  rw [List.getElem?_zipIdx] at hk
  cases hl : l[k]? with
  | none => rw [hl] at hk; simp at hk
  | some y =>
    rw [hl] at hk
    simp only [Option.map_some, Option.some.injEq, Nat.zero_add] at hk
    subst hk
    exact ⟨hR k y r hl (h2 k y r hl hr).1, (h2 k y r hl hr).2⟩
theorem OwnL.unzip {α : Type} {w : World} {E : TypeId} {sz : Nat} {R : α → List Value → Prop} {v : Value} {l : List α} {ob : Option Nat} {R' : Nat → α → List Value → Prop} (h : OwnL w E sz (fun p r => R' p.2 p.1 r) v l.zipIdx ob) (hR : ∀ (j : Nat) x r, l[j]? = some x → R' j x r → R x r) :
    OwnL w E sz R v l ob := by
  obtain ⟨rows, h1, h2, h3⟩ := h
  refine ⟨rows, by simpa using h1, fun k x r hk hr => ?_, by simpa using h3⟩
  have := h2 k (x, k) r (by rw [List.getElem?_zipIdx, hk]; simp) hr
  exact ⟨hR k x r hk this.1, this.2⟩

set_option maxHeartbeats 400000 in
theorem graphNodeR (S : Nat → Prop) (B : Nat) (G : PGraph) (id : Int) (w : World) (h : GraphRd 101 S w B G) (hs : (G.nodes.map (·.id)).Pairwise (· < ·)) (hb : G.nodes.length ≤ 1099511627776) :
    Calls Tryz.prog 104 #[.pointer (some ⟨B, 0, none⟩), .int .i64 id] w (BsPost (G.nodes.map (·.id)) id w) := by
  obtain ⟨na, nc, ea, ec, hB, c0, c1, c2, hn, -⟩ := h.read
  clear h
  have HN := Lib.hid hn; have HS := Lib.hid hs; have HI := Lib.hid hb; clear hn hs hb
  go_enter Tryz.func104, Tryz.ntmps104
  go_wp2_with fail
  refine (bsNodes S _ G.nodes id _ HN.out HS.out HI.out).mono ?_
  rintro e w2 ⟨i, b, rfl, hb, hg⟩
  have HB := Lib.hid hb; clear hb
  go_wp2
  go_ret2
  exact BsPost.mk i b rfl HB.out hg

set_option maxRecDepth 100000 in
set_option maxHeartbeats 2000000 in
theorem graphNodes (S : Nat → Prop) (B : Nat) (G : PGraph) (w : World) (h : GraphRd 101 S w B G) (hb : G.nodes.length ≤ 1099511627776) (hp : ∀ x ∈ G.nodes, x.props.length ≤ 1099511627776) :
    Calls Tryz.prog 23 #[.pointer (some ⟨B, 0, none⟩)] w fun e w' => ∃ v ob, e = .returned v ∧ OwnL w' 89 3 (RNode (fun b => w.heap.size ≤ b ∧ ob ≠ some b) w') v G.nodes ob ∧ (∀ g, ob = some g → w.heap.size ≤ g) ∧ Grow w w' := by
  obtain ⟨na, nc, ea, ec, hB, c0, c1, c2, hn, -⟩ := h.read
  clear h
  have hn2 : SlR S w 3 (RNode (fun b => S b ∧ b < w.heap.size) w) (.slice na G.nodes.length nc) G.nodes := SlR.sub hn (fun _ h => h) (fun x r _ hR => by obtain ⟨pv, hr, hp⟩ := hR; exact ⟨pv, hr, hp.cut⟩)
  have hn3 : NodesR (fun b => S b ∧ b < w.heap.size) w (.slice na G.nodes.length nc) G.nodes := by
    obtain ⟨a, cap, rows, hv, hl, hc, hr, hR1, h⟩ := hn2
    refine ⟨a, cap, rows, hv, hl, hc, hr, hR1, fun h0 => ?_⟩
    obtain ⟨b, off, ha, hS, hb, hcell⟩ := h h0
    exact ⟨b, off, ha, ⟨hS, hb⟩, hb, hcell⟩
  have HN := Lib.hid hn3; have HBD := Lib.hid hb; have HPL := Lib.hid hp
  clear hn hn2 hn3 hb hp
  go_enter Tryz.func23, Tryz.ntmps23
  go_wp2_with fail
  refine (cloneNode _ _ G.nodes _ HN.out HBD.out).mono ?_
  rintro e w2 ⟨v2, ob, rfl, hown, hg, hob⟩
  have HG2 := Lib.hid hg; have HOB := Lib.hid hob
  have HOL := Lib.hid (show ∀ g, ob = some g → g < w2.heap.size from hown.lt)
  have HZ := Lib.hid (hown.zip (fun j x r => if j < 0 then RNode (fun b => w2.heap.size ≤ b) w2 x r else RNode (fun b => S b ∧ b < w.heap.size) w2 x r) (fun j x r _ h => by rw [if_neg (by omega)]; exact h))
  obtain ⟨oa, cap, hv⟩ : ∃ oa cap, v2 = .slice oa G.nodes.length cap := by obtain ⟨_, _, _, h⟩ := hown; obtain ⟨oa, cap, h, _⟩ := h.isSlice; exact ⟨oa, cap, h⟩
  subst hv
  generalize hll : G.nodes = l at *
  have HLL := Lib.hid hll
  have HPL2 : Hid (∀ x ∈ l, x.props.length ≤ 1099511627776) := HPL
  have HBD2 : Hid (l.length ≤ 1099511627776) := HBD
  have hb62 : l.length ≤ 2 ^ 62 := by have := HBD2.out; omega
  clear hown hg hob HPL HBD HN c0 c1 c2 hll
  go_wp2
  go_loopg [14] l.length (fun gg i wr => ∃ k : Nat, k ≤ l.length ∧ gg = l.length - k ∧ i = .int .i64 k ∧
    OwnL wr 89 3 (fun p r => if p.2 < k then RNode (fun b => w2.heap.size ≤ b) wr p.1 r else RNode (fun b => S b ∧ b < w.heap.size) wr p.1 r) (.slice oa l.length cap) l.zipIdx ob ∧ Mod (fun b => ob = some b) w2 wr)
  case atStart => exact ⟨0, by omega, by omega, rfl, HZ.out, Mod.rfl' _ _⟩
  case round =>
    obtain ⟨k, hk, rfl, rfl, hcur, hmod⟩ := hrel
    have HCUR := Lib.hid hcur; have HMOD := Lib.hid hmod
    by_cases hkl : k < l.length
    · obtain ⟨g, cap', hv, ho⟩ := hcur.sliceAt (i := k) (by simpa using hkl)
      simp only [Value.slice.injEq, List.length_zipIdx, true_and] at hv
      obtain ⟨rfl, rfl⟩ := hv
      subst ho
      have hx : l.zipIdx[k]? = some (l[k], k) := by rw [List.getElem?_zipIdx, List.getElem?_eq_getElem hkl]; simp
      obtain ⟨r, hr, -, hc⟩ := hcur.row hx
      rw [if_neg (by simp)] at hr
      obtain ⟨pv, rfl, hpp⟩ := hr
      have hpl : (l[k]).props.length ≤ 1099511627776 := HPL2.out _ (List.getElem_mem hkl)
      have HX := Lib.hid hx
      have hbw := hcur.lt g rfl
      have a2 : wr.cell? ⟨g, k * 3 + 2, none⟩ = some pv := by have := hc 2 pv rfl; rwa [Nat.zero_add] at this
      have HPP := Lib.hid hpp; have HPLK := Lib.hid hpl
      obtain ⟨pa, pc, rfl⟩ := hpp.isSlice
      clear hc hpp hcur hmod hpl hx
      generalize l[k] = x at *
      go_wp2_with fail
      refine (cloneProp _ _ x.props _ HPP.out HPLK.out).mono ?_
      rintro e w4 ⟨v4, ob4, rfl, hown4, hg4, hob4⟩
      have hk4 := HCUR.out.keep (R' := fun p r => if p.2 < k then RNode (fun b => w2.heap.size ≤ b) w4 p.1 r else RNode (fun b => S b ∧ b < w.heap.size) w4 p.1 r) (w' := w4) (fun g hg => hg4.heapEq (HCUR.out.lt g hg)) (fun p r _ hR => by
        by_cases hq : p.2 < k
        · rw [if_pos hq] at hR ⊢
          exact hR.mod (Mod.of_grow (F := fun _ => False) hg4) (fun _ _ => id)
        · rw [if_neg hq] at hR ⊢
          exact hR.mod (Mod.of_grow (F := fun _ => False) hg4) (fun _ _ => id))
      have hsl := hk4.slot (i := k) (t := 2) (by simpa using hkl) (by omega)
      obtain ⟨⟨u4, q4⟩, f4⟩ := hsl
      obtain ⟨a4, k4, rfl⟩ : ∃ a c, v4 = .slice a x.props.length c := by obtain ⟨_, _, _, h⟩ := hown4; obtain ⟨oa, cap, h, _⟩ := h.isSlice; exact ⟨oa, cap, h⟩
      have HK4 := Lib.hid hk4; have HP4 := Lib.hid (show PropsR (fun b => w2.heap.size ≤ b) w4 _ x.props from (hown4.toSl (S := fun b => w2.heap.size ≤ b) (fun g hg => Nat.le_trans HMOD.out.size (hob4 g hg))))
      have HG4 := Lib.hid hg4
      clear hk4 hown4 hob4 hg4
      go_wp2_with fail
      go_roundg (l.length - (k + 1))
      case measure => omega
      case rel =>
        have hgl := HOL.out g rfl
        have hgo := HOB.out g rfl
        have m5 : Mod (fun b => b = g) w4 (w4.setCell ⟨g, k * 3 + 2, none⟩ (.slice a4 x.props.length k4)) := (Mod.rfl' (fun b => b = g) w4).setd (p := ⟨g, k * 3 + 2, none⟩) (.inl rfl) _
        refine ⟨k + 1, by omega, rfl, by go_num, ?_, (HMOD.out.step (Mod.of_grow HG4.out)).step (m5.mono (fun b e => by rw [e]))⟩
        have hset : l.zipIdx.set k (x, k) = l.zipIdx := by
          have := HX.out
          obtain ⟨h1, h2⟩ := List.getElem?_eq_some_iff.1 this
          rw [← h2, List.set_getElem_self]
        have hN : ∀ b, w2.heap.size ≤ b → ¬ (b = g) := fun b hb e => by omega
        have hSS : ∀ b, (S b ∧ b < w.heap.size) → ¬ (b = g) := fun b hb e => by omega
        have h5 := HK4.out.setOne (R' := fun p r => if p.2 < k + 1 then RNode (fun b => w2.heap.size ≤ b) (w4.setCell ⟨g, k * 3 + 2, none⟩ (.slice a4 x.props.length k4)) p.1 r else RNode (fun b => S b ∧ b < w.heap.size) (w4.setCell ⟨g, k * 3 + 2, none⟩ (.slice a4 x.props.length k4)) p.1 r)
          (t := 2) (x' := (x, k)) (u := .slice a4 x.props.length k4) HX.out (by omega) (fun r hr => by
            rw [if_neg (by simp)] at hr
            rw [if_pos (by simp)]
            obtain ⟨pv, rfl, -⟩ := hr
            exact ⟨_, rfl, HP4.out.mod m5 hN⟩) (fun j y r hjk hj hr => by
            rw [List.getElem?_zipIdx] at hj
            have hy : y.2 = j := by
              cases hl : l[j]? with
              | none => rw [hl] at hj; simp at hj
              | some z => rw [hl] at hj; simp only [Option.map_some, Option.some.injEq, Nat.zero_add] at hj; rw [← hj]
            rw [hy] at hr ⊢
            by_cases hjk2 : j < k
            · rw [if_pos hjk2] at hr
              rw [if_pos (by omega)]
              exact hr.mod m5 hN
            · rw [if_neg hjk2] at hr
              rw [if_neg (by omega)]
              exact hr.mod m5 hSS)
        rw [hset] at h5
        exact h5
    · have hkn : k = l.length := by omega
      subst hkn
      go_wp2
      go_ret
      refine ⟨.slice oa l.length cap, ob, rfl, ?_, HOB.out, HG2.out.modd HMOD.out (fun b hb => HOB.out b hb)⟩
      rw [HLL.out]
      refine HCUR.out.unzip (R' := fun j x r => if j < l.length then RNode (fun b => w2.heap.size ≤ b) wr x r else RNode (fun b => S b ∧ b < w.heap.size) wr x r) (fun j x r hj hR => ?_)
      rw [if_pos (List.getElem?_eq_some_iff.1 hj).1] at hR
      exact hR.sub (fun b hb => ⟨Nat.le_trans HG2.out.size hb, fun e => by have := HOL.out b e; omega⟩)

set_option maxHeartbeats 400000 in
theorem graphEdgeR (S : Nat → Prop) (B : Nat) (G : PGraph) (id : Int) (w : World) (h : GraphRd 101 S w B G) (hs : (G.edges.map (·.id)).Pairwise (· < ·)) (hb : G.edges.length ≤ 1099511627776) :
    Calls Tryz.prog 98 #[.pointer (some ⟨B, 0, none⟩), .int .i64 id] w (BsPost (G.edges.map (·.id)) id w) := by
  obtain ⟨na, nc, ea, ec, hB, c0, c1, c2, -, hn⟩ := h.read
  clear h
  have HN := Lib.hid hn; have HS := Lib.hid hs; have HI := Lib.hid hb; clear hn hs hb
  go_enter Tryz.func98, Tryz.ntmps98
  go_wp2_with fail
  refine (bsEdges S _ G.edges id _ HN.out HS.out HI.out).mono ?_
  rintro e w2 ⟨i, b, rfl, hb, hg⟩
  have HB := Lib.hid hb; clear hb
  go_wp2
  go_ret2
  exact BsPost.mk i b rfl HB.out hg

set_option maxRecDepth 100000 in
set_option maxHeartbeats 2000000 in
theorem graphEdges (S : Nat → Prop) (B : Nat) (G : PGraph) (w : World) (h : GraphRd 101 S w B G) (hb : G.edges.length ≤ 1099511627776) (hp : ∀ x ∈ G.edges, x.props.length ≤ 1099511627776) :
    Calls Tryz.prog 54 #[.pointer (some ⟨B, 0, none⟩)] w fun e w' => ∃ v ob, e = .returned v ∧ OwnL w' 91 5 (REdge (fun b => w.heap.size ≤ b ∧ ob ≠ some b) w') v G.edges ob ∧ (∀ g, ob = some g → w.heap.size ≤ g) ∧ Grow w w' := by
  obtain ⟨na, nc, ea, ec, hB, c0, c1, c2, -, hn⟩ := h.read
  clear h
  have hn2 : SlR S w 5 (REdge (fun b => S b ∧ b < w.heap.size) w) (.slice ea G.edges.length ec) G.edges := SlR.sub hn (fun _ h => h) (fun x r _ hR => by obtain ⟨pv, hr, hp⟩ := hR; exact ⟨pv, hr, hp.cut⟩)
  have hn3 : EdgesR (fun b => S b ∧ b < w.heap.size) w (.slice ea G.edges.length ec) G.edges := by
    obtain ⟨a, cap, rows, hv, hl, hc, hr, hR1, h⟩ := hn2
    refine ⟨a, cap, rows, hv, hl, hc, hr, hR1, fun h0 => ?_⟩
    obtain ⟨b, off, ha, hS, hb, hcell⟩ := h h0
    exact ⟨b, off, ha, ⟨hS, hb⟩, hb, hcell⟩
  have HN := Lib.hid hn3; have HBD := Lib.hid hb; have HPL := Lib.hid hp
  clear hn hn2 hn3 hb hp
  go_enter Tryz.func54, Tryz.ntmps54
  go_wp2_with fail
  refine (cloneEdge _ _ G.edges _ HN.out HBD.out).mono ?_
  rintro e w2 ⟨v2, ob, rfl, hown, hg, hob⟩
  have HG2 := Lib.hid hg; have HOB := Lib.hid hob
  have HOL := Lib.hid (show ∀ g, ob = some g → g < w2.heap.size from hown.lt)
  have HZ := Lib.hid (hown.zip (fun j x r => if j < 0 then REdge (fun b => w2.heap.size ≤ b) w2 x r else REdge (fun b => S b ∧ b < w.heap.size) w2 x r) (fun j x r _ h => by rw [if_neg (by omega)]; exact h))
  obtain ⟨oa, cap, hv⟩ : ∃ oa cap, v2 = .slice oa G.edges.length cap := by obtain ⟨_, _, _, h⟩ := hown; obtain ⟨oa, cap, h, _⟩ := h.isSlice; exact ⟨oa, cap, h⟩
  subst hv
  generalize hll : G.edges = l at *
  have HLL := Lib.hid hll
  have HPL2 : Hid (∀ x ∈ l, x.props.length ≤ 1099511627776) := HPL
  have HBD2 : Hid (l.length ≤ 1099511627776) := HBD
  have hb62 : l.length ≤ 2 ^ 62 := by have := HBD2.out; omega
  clear hown hg hob HPL HBD HN c0 c1 c2 hll
  go_wp2
  go_loopg [14] l.length (fun gg i wr => ∃ k : Nat, k ≤ l.length ∧ gg = l.length - k ∧ i = .int .i64 k ∧
    OwnL wr 91 5 (fun p r => if p.2 < k then REdge (fun b => w2.heap.size ≤ b) wr p.1 r else REdge (fun b => S b ∧ b < w.heap.size) wr p.1 r) (.slice oa l.length cap) l.zipIdx ob ∧ Mod (fun b => ob = some b) w2 wr)
  case atStart => exact ⟨0, by omega, by omega, rfl, HZ.out, Mod.rfl' _ _⟩
  case round =>
    obtain ⟨k, hk, rfl, rfl, hcur, hmod⟩ := hrel
    have HCUR := Lib.hid hcur; have HMOD := Lib.hid hmod
    by_cases hkl : k < l.length
    · obtain ⟨g, cap', hv, ho⟩ := hcur.sliceAt (i := k) (by simpa using hkl)
      simp only [Value.slice.injEq, List.length_zipIdx, true_and] at hv
      obtain ⟨rfl, rfl⟩ := hv
      subst ho
      have hx : l.zipIdx[k]? = some (l[k], k) := by rw [List.getElem?_zipIdx, List.getElem?_eq_getElem hkl]; simp
      obtain ⟨r, hr, -, hc⟩ := hcur.row hx
      rw [if_neg (by simp)] at hr
      obtain ⟨pv, rfl, hpp⟩ := hr
      have hpl : (l[k]).props.length ≤ 1099511627776 := HPL2.out _ (List.getElem_mem hkl)
      have HX := Lib.hid hx
      have hbw := hcur.lt g rfl
      have a2 : wr.cell? ⟨g, k * 5 + 4, none⟩ = some pv := by have := hc 4 pv rfl; rwa [Nat.zero_add] at this
      have HPP := Lib.hid hpp; have HPLK := Lib.hid hpl
      obtain ⟨pa, pc, rfl⟩ := hpp.isSlice
      clear hc hpp hcur hmod hpl hx
      generalize l[k] = x at *
      go_wp2_with fail
      refine (cloneProp _ _ x.props _ HPP.out HPLK.out).mono ?_
      rintro e w4 ⟨v4, ob4, rfl, hown4, hg4, hob4⟩
      have hk4 := HCUR.out.keep (R' := fun p r => if p.2 < k then REdge (fun b => w2.heap.size ≤ b) w4 p.1 r else REdge (fun b => S b ∧ b < w.heap.size) w4 p.1 r) (w' := w4) (fun g hg => hg4.heapEq (HCUR.out.lt g hg)) (fun p r _ hR => by
        by_cases hq : p.2 < k
        · rw [if_pos hq] at hR ⊢
          exact hR.mod (Mod.of_grow (F := fun _ => False) hg4) (fun _ _ => id)
        · rw [if_neg hq] at hR ⊢
          exact hR.mod (Mod.of_grow (F := fun _ => False) hg4) (fun _ _ => id))
      have hsl := hk4.slot (i := k) (t := 4) (by simpa using hkl) (by omega)
      obtain ⟨⟨u4, q4⟩, f4⟩ := hsl
      obtain ⟨a4, k4, rfl⟩ : ∃ a c, v4 = .slice a x.props.length c := by obtain ⟨_, _, _, h⟩ := hown4; obtain ⟨oa, cap, h, _⟩ := h.isSlice; exact ⟨oa, cap, h⟩
      have HK4 := Lib.hid hk4; have HP4 := Lib.hid (show PropsR (fun b => w2.heap.size ≤ b) w4 _ x.props from (hown4.toSl (S := fun b => w2.heap.size ≤ b) (fun g hg => Nat.le_trans HMOD.out.size (hob4 g hg))))
      have HG4 := Lib.hid hg4
      clear hk4 hown4 hob4 hg4
      go_wp2_with fail
      go_roundg (l.length - (k + 1))
      case measure => omega
      case rel =>
        have hgl := HOL.out g rfl
        have hgo := HOB.out g rfl
        have m5 : Mod (fun b => b = g) w4 (w4.setCell ⟨g, k * 5 + 4, none⟩ (.slice a4 x.props.length k4)) := (Mod.rfl' (fun b => b = g) w4).setd (p := ⟨g, k * 5 + 4, none⟩) (.inl rfl) _
        refine ⟨k + 1, by omega, rfl, by go_num, ?_, (HMOD.out.step (Mod.of_grow HG4.out)).step (m5.mono (fun b e => by rw [e]))⟩
        have hset : l.zipIdx.set k (x, k) = l.zipIdx := by
          have := HX.out
          obtain ⟨h1, h2⟩ := List.getElem?_eq_some_iff.1 this
          rw [← h2, List.set_getElem_self]
        have hN : ∀ b, w2.heap.size ≤ b → ¬ (b = g) := fun b hb e => by omega
        have hSS : ∀ b, (S b ∧ b < w.heap.size) → ¬ (b = g) := fun b hb e => by omega
        have h5 := HK4.out.setOne (R' := fun p r => if p.2 < k + 1 then REdge (fun b => w2.heap.size ≤ b) (w4.setCell ⟨g, k * 5 + 4, none⟩ (.slice a4 x.props.length k4)) p.1 r else REdge (fun b => S b ∧ b < w.heap.size) (w4.setCell ⟨g, k * 5 + 4, none⟩ (.slice a4 x.props.length k4)) p.1 r)
          (t := 4) (x' := (x, k)) (u := .slice a4 x.props.length k4) HX.out (by omega) (fun r hr => by
            rw [if_neg (by simp)] at hr
            rw [if_pos (by simp)]
            obtain ⟨pv, rfl, -⟩ := hr
            exact ⟨_, rfl, HP4.out.mod m5 hN⟩) (fun j y r hjk hj hr => by
            rw [List.getElem?_zipIdx] at hj
            have hy : y.2 = j := by
              cases hl : l[j]? with
              | none => rw [hl] at hj; simp at hj
              | some z => rw [hl] at hj; simp only [Option.map_some, Option.some.injEq, Nat.zero_add] at hj; rw [← hj]
            rw [hy] at hr ⊢
            by_cases hjk2 : j < k
            · rw [if_pos hjk2] at hr
              rw [if_pos (by omega)]
              exact hr.mod m5 hN
            · rw [if_neg hjk2] at hr
              rw [if_neg (by omega)]
              exact hr.mod m5 hSS)
        rw [hset] at h5
        exact h5
    · have hkn : k = l.length := by omega
      subst hkn
      go_wp2
      go_ret
      refine ⟨.slice oa l.length cap, ob, rfl, ?_, HOB.out, HG2.out.modd HMOD.out (fun b hb => HOB.out b hb)⟩
      rw [HLL.out]
      refine HCUR.out.unzip (R' := fun j x r => if j < l.length then REdge (fun b => w2.heap.size ≤ b) wr x r else REdge (fun b => S b ∧ b < w.heap.size) wr x r) (fun j x r hj hR => ?_)
      rw [if_pos (List.getElem?_eq_some_iff.1 hj).1] at hR
      exact hR.sub (fun b hb => ⟨Nat.le_trans HG2.out.size hb, fun e => by have := HOL.out b e; omega⟩)
end Go.Hg

namespace Go.Hg
open Go.RowKit Go.Proofs

def NodePost (G : PGraph) (id : Int) (w : World) (e : Ending) (w' : World) : Prop :=
  (((G.nodes.find? fun x => decide (x.id = id)) = none ∧ e = .returned (.tuple #[.agg #[.int .i64 0, .string ByteArray.empty, .slice none 0 0], .bool false])) ∨
   ∃ x pv, (G.nodes.find? fun x => decide (x.id = id)) = some x ∧ e = .returned (.tuple #[.agg #[.int .i64 x.id, .string x.typ, pv], .bool true]) ∧ PropsR (fun b => w.heap.size ≤ b) w' pv x.props) ∧ Grow w w'

set_option maxRecDepth 100000 in
set_option maxHeartbeats 2000000 in
theorem graphGetNode (S : Nat → Prop) (B : Nat) (G : PGraph) (id : Int) (w : World) (h : GraphRd 101 S w B G) (hs : (G.nodes.map (·.id)).Pairwise (· < ·)) (hb : G.nodes.length ≤ 1099511627776) (hp : ∀ x ∈ G.nodes, x.props.length ≤ 1099511627776) :
    Calls Tryz.prog 69 #[.pointer (some ⟨B, 0, none⟩), .int .i64 id] w (NodePost G id w) := by
  have HGR := Lib.hid h; have HS := Lib.hid hs; have HBD := Lib.hid hb; have HPL := Lib.hid hp
  have hB : B < w.heap.size := by obtain ⟨_, _, h, _⟩ := h; exact blk_lt h
  have HW := Lib.hid (show ∀ o1, Grow w (w.alloc o1) from fun o1 => (Grow.rfl' w).allocd o1)
  have HNB := Lib.hid (show ∀ o1 w', Grow (w.alloc o1) w' → w'.heap[w.heap.size]? = some o1 from fun o1 w' hg => by rw [hg.heapEq (by simp)]; exact heap_alloc_new w _)
  clear h hs hb hp
  go_enter Tryz.func69, Tryz.ntmps69
  go_wp2_with fail
  refine (graphNodeR S B G id _ (HGR.out.grow (HW.out _)) HS.out HBD.out).mono ?_
  rintro e w2 ⟨i, b, rfl, hbs, hg⟩
  have HG2 := Lib.hid ((HW.out _).step hg)
  have hnb := HNB.out _ _ hg
  have hnl := blk_lt hnb
  have z0 : w2.cell? ⟨w.heap.size, 0, none⟩ = some (.int .i64 0) := by rw [blk_cell hnb]; rfl
  have zf0 := blk_free hnb 0
  have z1 : w2.cell? ⟨w.heap.size, 1, none⟩ = some (.string ByteArray.empty) := by rw [blk_cell hnb]; rfl
  have zf1 := blk_free hnb 1
  have z2 : w2.cell? ⟨w.heap.size, 2, none⟩ = some (.slice none 0 0) := by rw [blk_cell hnb]; rfl
  have zf2 := blk_free hnb 2
  have HBS := Lib.hid hbs; have HG02 := Lib.hid hg; have HNB2 := Lib.hid hnb
  clear hbs hg hnb
  cases b
  · have HF := Lib.hid (find_none (fun x : PNode => x.id) (idx_any (fun x : PNode => x.id) HBS.out).symm)
    go_wp2
    refine bodyPost_ret (v := .tuple #[.agg #[.int .i64 0, .string ByteArray.empty, .slice none 0 0], .bool false]) ?_ rfl ⟨.inl ⟨HF.out, rfl⟩, ?_⟩
    · rw [results_cell_tmp rfl]
      go_simp
      rfl
    · exact (((HG2.out).setd (p := ⟨w.heap.size, 0, none⟩) (Nat.le_refl _) _).setd (p := ⟨w.heap.size, 1, none⟩) (Nat.le_refl _) _).setd (p := ⟨w.heap.size, 2, none⟩) (Nat.le_refl _) _
  · obtain ⟨x, hx, hxi⟩ := idx_at (fun x : PNode => x.id) HBS.out
    have hil : i < G.nodes.length := (List.getElem?_eq_some_iff.1 hx).1
    have HF := Lib.hid (find_idx (fun x : PNode => x.id) HS.out hx hxi)
    have hpl := HPL.out x (List.mem_of_getElem? hx)
    have HPX := Lib.hid hpl
    obtain ⟨na, nc, ea, ec, hB2, g0, g1, g2, hn, he⟩ := (HGR.out.grow HG2.out).read
    obtain ⟨_, _, hv, hle, hcm, hA⟩ := SlR.open hn
    simp only [Value.slice.injEq, true_and] at hv
    obtain ⟨rfl, rfl⟩ := hv
    obtain ⟨ba, oa, ra, rfl, hSa, hba, hRa, hca⟩ := hA i x hx
    obtain ⟨pva, hba', a0, a1, a2, hpa⟩ := hRa.at hba (Grow.rfl' w2) hca
    have HPA := Lib.hid hpa
    obtain ⟨pa, pc, rfl⟩ := hpa.isSlice
    unfold maxLen at hcm
    clear hca hRa hSa hba hA hn he hpa hpl hx hxi
    go_wp2_with fail
    refine (cloneProp _ _ x.props _ (HPA.out.grow ((Grow.rfl' w2).allocd _)) HPX.out).mono ?_
    rintro e w3 ⟨v3, ob3, rfl, hown, hg, hob⟩
    obtain ⟨a3, c3, rfl⟩ : ∃ a c, v3 = .slice a x.props.length c := by obtain ⟨_, _, _, h⟩ := hown; obtain ⟨oa, cap, h, _⟩ := h.isSlice; exact ⟨oa, cap, h⟩
    have hb3 : w3.heap[w2.heap.size]? = some (.cells #[.int .i64 x.id, .string x.typ, .slice pa x.props.length pc] 89 (0, 0)) := by rw [hg.heapEq (by simp)]; exact heap_alloc_new w2 _
    have hl3 := blk_lt hb3
    have y0 : w3.cell? ⟨w2.heap.size, 0, none⟩ = some (.int .i64 x.id) := by rw [blk_cell hb3]; rfl
    have yf0 := blk_free hb3 0
    have y1 : w3.cell? ⟨w2.heap.size, 1, none⟩ = some (.string x.typ) := by rw [blk_cell hb3]; rfl
    have yf1 := blk_free hb3 1
    have y2 : w3.cell? ⟨w2.heap.size, 2, none⟩ = some (.slice pa x.props.length pc) := by rw [blk_cell hb3]; rfl
    have yf2 := blk_free hb3 2
    have hr3 := HNB.out _ w3 ((HG02.out.allocd _).step hg)
    have hlr := blk_lt hr3
    have x0 : w3.cell? ⟨w.heap.size, 0, none⟩ = some (.int .i64 0) := by rw [blk_cell hr3]; rfl
    have xf0 := blk_free hr3 0
    have x1 : w3.cell? ⟨w.heap.size, 1, none⟩ = some (.string ByteArray.empty) := by rw [blk_cell hr3]; rfl
    have xf1 := blk_free hr3 1
    have x2 : w3.cell? ⟨w.heap.size, 2, none⟩ = some (.slice none 0 0) := by rw [blk_cell hr3]; rfl
    have xf2 := blk_free hr3 2
    have HG3 := Lib.hid ((HG2.out.allocd _).step hg)
    have HP3 := Lib.hid (show PropsR (fun b => w2.heap.size + 1 ≤ b) w3 (.slice a3 x.props.length c3) x.props from hown.toSl (S := fun b => w2.heap.size + 1 ≤ b) (fun g hgg => by have := hob g hgg; simpa using this))
    have HS2 := Lib.hid HG2.out.size
    clear hown hg hob hb3 hr3
    go_wp2
    refine bodyPost_ret (v := .tuple #[.agg #[.int .i64 x.id, .string x.typ, .slice a3 x.props.length c3], .bool true]) ?_ rfl ⟨.inr ⟨x, _, HF.out, rfl, ?_⟩, ?_⟩
    · rw [results_cell_tmp rfl]
      go_simp
    · refine (HP3.out.mod (F := fun b => b = w.heap.size ∨ b = w2.heap.size) (((((Mod.rfl' _ w3).setd (p := ⟨w2.heap.size, 2, none⟩) (.inl (.inr rfl)) _).setd (p := ⟨w.heap.size, 0, none⟩) (.inl (.inl rfl)) _).setd (p := ⟨w.heap.size, 1, none⟩) (.inl (.inl rfl)) _).setd (p := ⟨w.heap.size, 2, none⟩) (.inl (.inl rfl)) _) (fun b hb h => ?_)).sub (fun b hb => ?_)
      · have := HS2.out
        have hx : w.heap.size < w2.heap.size := hnl
        rcases h with h | h <;> omega
      · have := HS2.out
        omega
    · have h2 := HS2.out
      exact (((HG3.out.setd (p := ⟨w2.heap.size, 2, none⟩) h2 _).setd (p := ⟨w.heap.size, 0, none⟩) (Nat.le_refl _) _).setd (p := ⟨w.heap.size, 1, none⟩) (Nat.le_refl _) _).setd (p := ⟨w.heap.size, 2, none⟩) (Nat.le_refl _) _

def EdgePost (G : PGraph) (id : Int) (w : World) (e : Ending) (w' : World) : Prop :=
  (((G.edges.find? fun x => decide (x.id = id)) = none ∧ e = .returned (.tuple #[.agg #[.int .i64 0, .string ByteArray.empty, .int .i64 0, .int .i64 0, .slice none 0 0], .bool false])) ∨
   ∃ x pv, (G.edges.find? fun x => decide (x.id = id)) = some x ∧ e = .returned (.tuple #[.agg #[.int .i64 x.id, .string x.typ, .int .i64 x.from_, .int .i64 x.to_, pv], .bool true]) ∧ PropsR (fun b => w.heap.size ≤ b) w' pv x.props) ∧ Grow w w'

set_option maxRecDepth 100000 in
set_option maxHeartbeats 2000000 in
theorem graphGetEdge (S : Nat → Prop) (B : Nat) (G : PGraph) (id : Int) (w : World) (h : GraphRd 101 S w B G) (hs : (G.edges.map (·.id)).Pairwise (· < ·)) (hb : G.edges.length ≤ 1099511627776) (hp : ∀ x ∈ G.edges, x.props.length ≤ 1099511627776) :
    Calls Tryz.prog 66 #[.pointer (some ⟨B, 0, none⟩), .int .i64 id] w (EdgePost G id w) := by
  have HGR := Lib.hid h; have HS := Lib.hid hs; have HBD := Lib.hid hb; have HPL := Lib.hid hp
  have hB : B < w.heap.size := by obtain ⟨_, _, h, _⟩ := h; exact blk_lt h
  have HW := Lib.hid (show ∀ o1, Grow w (w.alloc o1) from fun o1 => (Grow.rfl' w).allocd o1)
  have HNB := Lib.hid (show ∀ o1 w', Grow (w.alloc o1) w' → w'.heap[w.heap.size]? = some o1 from fun o1 w' hg => by rw [hg.heapEq (by simp)]; exact heap_alloc_new w _)
  clear h hs hb hp
  go_enter Tryz.func66, Tryz.ntmps66
  go_wp2_with fail
  refine (graphEdgeR S B G id _ (HGR.out.grow (HW.out _)) HS.out HBD.out).mono ?_
  rintro e w2 ⟨i, b, rfl, hbs, hg⟩
  have HG2 := Lib.hid ((HW.out _).step hg)
  have hnb := HNB.out _ _ hg
  have hnl := blk_lt hnb
  have z0 : w2.cell? ⟨w.heap.size, 0, none⟩ = some (.int .i64 0) := by rw [blk_cell hnb]; rfl
  have zf0 := blk_free hnb 0
  have z1 : w2.cell? ⟨w.heap.size, 1, none⟩ = some (.string ByteArray.empty) := by rw [blk_cell hnb]; rfl
  have zf1 := blk_free hnb 1
  have z2 : w2.cell? ⟨w.heap.size, 2, none⟩ = some (.int .i64 0) := by rw [blk_cell hnb]; rfl
  have zf2 := blk_free hnb 2
  have z3 : w2.cell? ⟨w.heap.size, 3, none⟩ = some (.int .i64 0) := by rw [blk_cell hnb]; rfl
  have zf3 := blk_free hnb 3
  have z4 : w2.cell? ⟨w.heap.size, 4, none⟩ = some (.slice none 0 0) := by rw [blk_cell hnb]; rfl
  have zf4 := blk_free hnb 4
  have HBS := Lib.hid hbs; have HG02 := Lib.hid hg; have HNB2 := Lib.hid hnb
  clear hbs hg hnb
  cases b
  · have HF := Lib.hid (find_none (fun x : PEdge => x.id) (idx_any (fun x : PEdge => x.id) HBS.out).symm)
    go_wp2
    refine bodyPost_ret (v := .tuple #[.agg #[.int .i64 0, .string ByteArray.empty, .int .i64 0, .int .i64 0, .slice none 0 0], .bool false]) ?_ rfl ⟨.inl ⟨HF.out, rfl⟩, ?_⟩
    · rw [results_cell_tmp rfl]
      go_simp
      rfl
    · exact (((((HG2.out).setd (p := ⟨w.heap.size, 0, none⟩) (Nat.le_refl _) _).setd (p := ⟨w.heap.size, 1, none⟩) (Nat.le_refl _) _).setd (p := ⟨w.heap.size, 2, none⟩) (Nat.le_refl _) _).setd (p := ⟨w.heap.size, 3, none⟩) (Nat.le_refl _) _).setd (p := ⟨w.heap.size, 4, none⟩) (Nat.le_refl _) _
  · obtain ⟨x, hx, hxi⟩ := idx_at (fun x : PEdge => x.id) HBS.out
    have hil : i < G.edges.length := (List.getElem?_eq_some_iff.1 hx).1
    have HF := Lib.hid (find_idx (fun x : PEdge => x.id) HS.out hx hxi)
    have hpl := HPL.out x (List.mem_of_getElem? hx)
    have HPX := Lib.hid hpl
    obtain ⟨na, nc, ea, ec, hB2, g0, g1, g2, hn, he⟩ := (HGR.out.grow HG2.out).read
    obtain ⟨_, _, hv, hle, hcm, hA⟩ := SlR.open he
    simp only [Value.slice.injEq, true_and] at hv
    obtain ⟨rfl, rfl⟩ := hv
    obtain ⟨ba, oa, ra, rfl, hSa, hba, hRa, hca⟩ := hA i x hx
    obtain ⟨pva, hba', a0, a1, a2, a3, a4, hpa⟩ := hRa.at hba (Grow.rfl' w2) hca
    have HPA := Lib.hid hpa
    obtain ⟨pa, pc, rfl⟩ := hpa.isSlice
    unfold maxLen at hcm
    clear hca hRa hSa hba hA hn he hpa hpl hx hxi
    go_wp2_with fail
    refine (cloneProp _ _ x.props _ (HPA.out.grow ((Grow.rfl' w2).allocd _)) HPX.out).mono ?_
    rintro e w3 ⟨v3, ob3, rfl, hown, hg, hob⟩
    obtain ⟨a3, c3, rfl⟩ : ∃ a c, v3 = .slice a x.props.length c := by obtain ⟨_, _, _, h⟩ := hown; obtain ⟨oa, cap, h, _⟩ := h.isSlice; exact ⟨oa, cap, h⟩
    have hb3 : w3.heap[w2.heap.size]? = some (.cells #[.int .i64 x.id, .string x.typ, .int .i64 x.from_, .int .i64 x.to_, .slice pa x.props.length pc] 91 (0, 0)) := by rw [hg.heapEq (by simp)]; exact heap_alloc_new w2 _
    have hl3 := blk_lt hb3
    have y0 : w3.cell? ⟨w2.heap.size, 0, none⟩ = some (.int .i64 x.id) := by rw [blk_cell hb3]; rfl
    have yf0 := blk_free hb3 0
    have y1 : w3.cell? ⟨w2.heap.size, 1, none⟩ = some (.string x.typ) := by rw [blk_cell hb3]; rfl
    have yf1 := blk_free hb3 1
    have y2 : w3.cell? ⟨w2.heap.size, 2, none⟩ = some (.int .i64 x.from_) := by rw [blk_cell hb3]; rfl
    have yf2 := blk_free hb3 2
    have y3 : w3.cell? ⟨w2.heap.size, 3, none⟩ = some (.int .i64 x.to_) := by rw [blk_cell hb3]; rfl
    have yf3 := blk_free hb3 3
    have y4 : w3.cell? ⟨w2.heap.size, 4, none⟩ = some (.slice pa x.props.length pc) := by rw [blk_cell hb3]; rfl
    have yf4 := blk_free hb3 4
    have hr3 := HNB.out _ w3 ((HG02.out.allocd _).step hg)
    have hlr := blk_lt hr3
    have x0 : w3.cell? ⟨w.heap.size, 0, none⟩ = some (.int .i64 0) := by rw [blk_cell hr3]; rfl
    have xf0 := blk_free hr3 0
    have x1 : w3.cell? ⟨w.heap.size, 1, none⟩ = some (.string ByteArray.empty) := by rw [blk_cell hr3]; rfl
    have xf1 := blk_free hr3 1
    have x2 : w3.cell? ⟨w.heap.size, 2, none⟩ = some (.int .i64 0) := by rw [blk_cell hr3]; rfl
    have xf2 := blk_free hr3 2
    have x3 : w3.cell? ⟨w.heap.size, 3, none⟩ = some (.int .i64 0) := by rw [blk_cell hr3]; rfl
    have xf3 := blk_free hr3 3
    have x4 : w3.cell? ⟨w.heap.size, 4, none⟩ = some (.slice none 0 0) := by rw [blk_cell hr3]; rfl
    have xf4 := blk_free hr3 4
    have HG3 := Lib.hid ((HG2.out.allocd _).step hg)
    have HP3 := Lib.hid (show PropsR (fun b => w2.heap.size + 1 ≤ b) w3 (.slice a3 x.props.length c3) x.props from hown.toSl (S := fun b => w2.heap.size + 1 ≤ b) (fun g hgg => by have := hob g hgg; simpa using this))
    have HS2 := Lib.hid HG2.out.size
    clear hown hg hob hb3 hr3
    go_wp2
    refine bodyPost_ret (v := .tuple #[.agg #[.int .i64 x.id, .string x.typ, .int .i64 x.from_, .int .i64 x.to_, .slice a3 x.props.length c3], .bool true]) ?_ rfl ⟨.inr ⟨x, _, HF.out, rfl, ?_⟩, ?_⟩
    · rw [results_cell_tmp rfl]
      go_simp
    · refine (HP3.out.mod (F := fun b => b = w.heap.size ∨ b = w2.heap.size) (((((((Mod.rfl' _ w3).setd (p := ⟨w2.heap.size, 4, none⟩) (.inl (.inr rfl)) _).setd (p := ⟨w.heap.size, 0, none⟩) (.inl (.inl rfl)) _).setd (p := ⟨w.heap.size, 1, none⟩) (.inl (.inl rfl)) _).setd (p := ⟨w.heap.size, 2, none⟩) (.inl (.inl rfl)) _).setd (p := ⟨w.heap.size, 3, none⟩) (.inl (.inl rfl)) _).setd (p := ⟨w.heap.size, 4, none⟩) (.inl (.inl rfl)) _) (fun b hb h => ?_)).sub (fun b hb => ?_)
      · have := HS2.out
        have hx : w.heap.size < w2.heap.size := hnl
        rcases h with h | h <;> omega
      · have := HS2.out
        omega
    · have h2 := HS2.out
      exact (((((HG3.out.setd (p := ⟨w2.heap.size, 4, none⟩) h2 _).setd (p := ⟨w.heap.size, 0, none⟩) (Nat.le_refl _) _).setd (p := ⟨w.heap.size, 1, none⟩) (Nat.le_refl _) _).setd (p := ⟨w.heap.size, 2, none⟩) (Nat.le_refl _) _).setd (p := ⟨w.heap.size, 3, none⟩) (Nat.le_refl _) _).setd (p := ⟨w.heap.size, 4, none⟩) (Nat.le_refl _) _
end Go.Hg

namespace Go.Hg
open Go.RowKit Go.Proofs

def IdsO (w : World) (v : Value) (l : List Int) (ob : Option Nat) : Prop := OwnS w 2 1 v l.length (l.map (.int .i64 ·)) ob
def IdsPost (l : List Int) (w : World) (e : Ending) (w' : World) : Prop := ∃ v ob, e = .returned v ∧ IdsO w' v l ob ∧ (∀ b, ob = some b → w.heap.size ≤ b) ∧ Grow w w'

end Go.Hg

namespace Go.Hg
open Go.RowKit Go.Maps Go.Sort Go.Shelf Go.Proofs

def sortFN_ren : Go.Shelf.Ren := ⟨fun | 6 => 99 | 15 => 126 | 14 => 125 | 28 => 148 | 29 => 149 | 20 => 140 | 21 => 141 | 22 => 142 | 23 => 143 | 24 => 144 | 25 => 145 | 26 => 146 | 27 => 147 | 46 => 161 | 47 => 162 | 48 => 163 | 49 => 164 | 50 => 165 | 57 => 170 | n => n, fun | 22 => 59 | 24 => 89 | 25 => 154 | 3 => 3 | 39 => 171 | 0 => 0 | 53 => 196 | 55 => 198 | 4 => 4 | 46 => 190 | 45 => 189 | 50 => 150 | 5 => 5 | 9 => 9 | 66 => 206 | 70 => 210 | 76 => 214 | 77 => 215 | n => n, fun | n => n⟩
theorem sortFN : SlLaysF0.n6 Tryz.prog sortFN_ren := {
  mixed := by kernel_rfl,
  f6 := ⟨Tryz.f99.name, by decide, Tryz.func99.trans (congrArg some (by kernel_rfl))⟩,
  f14 := ⟨Tryz.f125.name, by decide, Tryz.func125.trans (congrArg some (by kernel_rfl))⟩,
  f15 := Tryz.func126.trans (congrArg some (by kernel_rfl)),
  f20 := ⟨Tryz.f140.name, by decide, Tryz.func140.trans (congrArg some (by kernel_rfl))⟩,
  f21 := ⟨Tryz.f141.name, by decide, Tryz.func141.trans (congrArg some (by kernel_rfl))⟩,
  f22 := ⟨Tryz.f142.name, by decide, Tryz.func142.trans (congrArg some (by kernel_rfl))⟩,
  f23 := ⟨Tryz.f143.name, by decide, Tryz.func143.trans (congrArg some (by kernel_rfl))⟩,
  f24 := ⟨Tryz.f144.name, by decide, Tryz.func144.trans (congrArg some (by kernel_rfl))⟩,
  f25 := ⟨Tryz.f145.name, by decide, Tryz.func145.trans (congrArg some (by kernel_rfl))⟩,
  f26 := ⟨Tryz.f146.name, by decide, Tryz.func146.trans (congrArg some (by kernel_rfl))⟩,
  f27 := ⟨Tryz.f147.name, by decide, Tryz.func147.trans (congrArg some (by kernel_rfl))⟩,
  f28 := Tryz.func148.trans (congrArg some (by kernel_rfl)),
  f29 := Tryz.func149.trans (congrArg some (by kernel_rfl)),
  f46 := ⟨Tryz.f161.name, by decide, Tryz.func161.trans (congrArg some (by kernel_rfl))⟩,
  f47 := Tryz.func162.trans (congrArg some (by kernel_rfl)),
  f48 := Tryz.func163.trans (congrArg some (by kernel_rfl)),
  f49 := ⟨Tryz.f164.name, by decide, Tryz.func164.trans (congrArg some (by kernel_rfl))⟩,
  f50 := ⟨Tryz.f165.name, by decide, Tryz.func165.trans (congrArg some (by kernel_rfl))⟩,
  f57 := ⟨Tryz.f170.name, by decide, Tryz.func170.trans (congrArg some (by kernel_rfl))⟩,
  t0 := Tryz.underlying0,
  a0 := Tryz.isAgg0,
  z0 := Tryz.sizeOf0,
  v0 := Tryz.zeroValue0,
  t3 := Tryz.underlying3,
  a3 := Tryz.isAgg3,
  z3 := Tryz.sizeOf3,
  v3 := Tryz.zeroValue3,
  t4 := Tryz.underlying4,
  a4 := Tryz.isAgg4,
  z4 := Tryz.sizeOf4,
  v4 := Tryz.zeroValue4,
  t5 := Tryz.underlying5,
  a5 := Tryz.isAgg5,
  z5 := Tryz.sizeOf5,
  v5 := Tryz.zeroValue5,
  t9 := Tryz.underlying9,
  a9 := Tryz.isAgg9,
  z9 := Tryz.sizeOf9,
  v9 := Tryz.zeroValue9,
  t22 := Tryz.underlying59,
  a22 := Tryz.isAgg59,
  z22 := Tryz.sizeOf59,
  v22 := Tryz.zeroValue59,
  t25 := Tryz.underlying154,
  a25 := Tryz.isAgg154,
  z25 := Tryz.sizeOf154,
  v25 := Tryz.zeroValue154,
  t39 := Tryz.underlying171,
  a39 := Tryz.isAgg171,
  z39 := Tryz.sizeOf171,
  v39 := Tryz.zeroValue171,
  t45 := Tryz.underlying189,
  a45 := Tryz.isAgg189,
  z45 := Tryz.sizeOf189,
  v45 := Tryz.zeroValue189,
  t46 := Tryz.underlying190,
  a46 := Tryz.isAgg190,
  z46 := Tryz.sizeOf190,
  v46 := Tryz.zeroValue190,
  t50 := Tryz.underlying150,
  a50 := Tryz.isAgg150,
  z50 := Tryz.sizeOf150,
  v50 := Tryz.zeroValue150,
  t53 := Tryz.underlying196,
  a53 := Tryz.isAgg196,
  z53 := Tryz.sizeOf196,
  v53 := Tryz.zeroValue196,
  t55 := Tryz.underlying198,
  a55 := Tryz.isAgg198,
  z55 := Tryz.sizeOf198,
  v55 := Tryz.zeroValue198,
  t66 := Tryz.underlying206,
  a66 := Tryz.isAgg206,
  z66 := Tryz.sizeOf206,
  v66 := Tryz.zeroValue206,
  t70 := Tryz.underlying210,
  a70 := Tryz.isAgg210,
  z70 := Tryz.sizeOf210,
  v70 := Tryz.zeroValue210,
  t76 := Tryz.underlying214,
  a76 := Tryz.isAgg214,
  z76 := Tryz.sizeOf214,
  v76 := Tryz.zeroValue214,
  t77 := Tryz.underlying215,
  a77 := Tryz.isAgg215,
  z77 := Tryz.sizeOf215,
  v77 := Tryz.zeroValue215 }
def sortFE_ren : Go.Shelf.Ren := ⟨fun | 6 => 102 | 15 => 126 | 14 => 128 | 28 => 148 | 29 => 149 | 20 => 150 | 21 => 151 | 22 => 152 | 23 => 153 | 24 => 154 | 25 => 155 | 26 => 156 | 27 => 157 | 46 => 166 | 47 => 162 | 48 => 163 | 49 => 167 | 50 => 168 | 57 => 171 | n => n, fun | 22 => 84 | 24 => 91 | 25 => 156 | 3 => 3 | 39 => 171 | 0 => 0 | 53 => 196 | 55 => 198 | 4 => 4 | 46 => 190 | 45 => 189 | 50 => 150 | 5 => 5 | 9 => 9 | 66 => 206 | 70 => 210 | 76 => 214 | 77 => 215 | n => n, fun | n => n⟩
theorem sortFE : SlLaysF0.n6 Tryz.prog sortFE_ren := {
  mixed := by kernel_rfl,
  f6 := ⟨Tryz.f102.name, by decide, Tryz.func102.trans (congrArg some (by kernel_rfl))⟩,
  f14 := ⟨Tryz.f128.name, by decide, Tryz.func128.trans (congrArg some (by kernel_rfl))⟩,
  f15 := Tryz.func126.trans (congrArg some (by kernel_rfl)),
  f20 := ⟨Tryz.f150.name, by decide, Tryz.func150.trans (congrArg some (by kernel_rfl))⟩,
  f21 := ⟨Tryz.f151.name, by decide, Tryz.func151.trans (congrArg some (by kernel_rfl))⟩,
  f22 := ⟨Tryz.f152.name, by decide, Tryz.func152.trans (congrArg some (by kernel_rfl))⟩,
  f23 := ⟨Tryz.f153.name, by decide, Tryz.func153.trans (congrArg some (by kernel_rfl))⟩,
  f24 := ⟨Tryz.f154.name, by decide, Tryz.func154.trans (congrArg some (by kernel_rfl))⟩,
  f25 := ⟨Tryz.f155.name, by decide, Tryz.func155.trans (congrArg some (by kernel_rfl))⟩,
  f26 := ⟨Tryz.f156.name, by decide, Tryz.func156.trans (congrArg some (by kernel_rfl))⟩,
  f27 := ⟨Tryz.f157.name, by decide, Tryz.func157.trans (congrArg some (by kernel_rfl))⟩,
  f28 := Tryz.func148.trans (congrArg some (by kernel_rfl)),
  f29 := Tryz.func149.trans (congrArg some (by kernel_rfl)),
  f46 := ⟨Tryz.f166.name, by decide, Tryz.func166.trans (congrArg some (by kernel_rfl))⟩,
  f47 := Tryz.func162.trans (congrArg some (by kernel_rfl)),
  f48 := Tryz.func163.trans (congrArg some (by kernel_rfl)),
  f49 := ⟨Tryz.f167.name, by decide, Tryz.func167.trans (congrArg some (by kernel_rfl))⟩,
  f50 := ⟨Tryz.f168.name, by decide, Tryz.func168.trans (congrArg some (by kernel_rfl))⟩,
  f57 := ⟨Tryz.f171.name, by decide, Tryz.func171.trans (congrArg some (by kernel_rfl))⟩,
  t0 := Tryz.underlying0,
  a0 := Tryz.isAgg0,
  z0 := Tryz.sizeOf0,
  v0 := Tryz.zeroValue0,
  t3 := Tryz.underlying3,
  a3 := Tryz.isAgg3,
  z3 := Tryz.sizeOf3,
  v3 := Tryz.zeroValue3,
  t4 := Tryz.underlying4,
  a4 := Tryz.isAgg4,
  z4 := Tryz.sizeOf4,
  v4 := Tryz.zeroValue4,
  t5 := Tryz.underlying5,
  a5 := Tryz.isAgg5,
  z5 := Tryz.sizeOf5,
  v5 := Tryz.zeroValue5,
  t9 := Tryz.underlying9,
  a9 := Tryz.isAgg9,
  z9 := Tryz.sizeOf9,
  v9 := Tryz.zeroValue9,
  t22 := Tryz.underlying84,
  a22 := Tryz.isAgg84,
  z22 := Tryz.sizeOf84,
  v22 := Tryz.zeroValue84,
  t25 := Tryz.underlying156,
  a25 := Tryz.isAgg156,
  z25 := Tryz.sizeOf156,
  v25 := Tryz.zeroValue156,
  t39 := Tryz.underlying171,
  a39 := Tryz.isAgg171,
  z39 := Tryz.sizeOf171,
  v39 := Tryz.zeroValue171,
  t45 := Tryz.underlying189,
  a45 := Tryz.isAgg189,
  z45 := Tryz.sizeOf189,
  v45 := Tryz.zeroValue189,
  t46 := Tryz.underlying190,
  a46 := Tryz.isAgg190,
  z46 := Tryz.sizeOf190,
  v46 := Tryz.zeroValue190,
  t50 := Tryz.underlying150,
  a50 := Tryz.isAgg150,
  z50 := Tryz.sizeOf150,
  v50 := Tryz.zeroValue150,
  t53 := Tryz.underlying196,
  a53 := Tryz.isAgg196,
  z53 := Tryz.sizeOf196,
  v53 := Tryz.zeroValue196,
  t55 := Tryz.underlying198,
  a55 := Tryz.isAgg198,
  z55 := Tryz.sizeOf198,
  v55 := Tryz.zeroValue198,
  t66 := Tryz.underlying206,
  a66 := Tryz.isAgg206,
  z66 := Tryz.sizeOf206,
  v66 := Tryz.zeroValue206,
  t70 := Tryz.underlying210,
  a70 := Tryz.isAgg210,
  z70 := Tryz.sizeOf210,
  v70 := Tryz.zeroValue210,
  t76 := Tryz.underlying214,
  a76 := Tryz.isAgg214,
  z76 := Tryz.sizeOf214,
  v76 := Tryz.zeroValue214,
  t77 := Tryz.underlying215,
  a77 := Tryz.isAgg215,
  z77 := Tryz.sizeOf215,
  v77 := Tryz.zeroValue215 }
end Go.Hg
