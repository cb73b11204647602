/- graph.props, maySetProp. No condition but a graph's own. -/
import Derived.Test.YtcokiflkjnekeaaGreatMutB
import Derived.Test.YtcokiflkjnekeaaGreatSetC
import Derived.Deep.RegionHeld3
namespace Go.Hg
open Go.RowKit Go.Proofs

/-- where the properties of an Id lie -/
def PropsAt (G : PGraph) (on oe : Option Nat) (id : Int) (v : Value) : Prop :=
  (hasN G id = true ∧ ∃ (i : Nat) (x : PNode) (g : Nat), G.nodes[i]? = some x ∧ x.id = id ∧ on = some g ∧ v = .pointer (some ⟨g, i * 3 + 2, none⟩)) ∨
  (hasN G id = false ∧ hasE G id = true ∧ ∃ (i : Nat) (x : PEdge) (g : Nat), G.edges[i]? = some x ∧ x.id = id ∧ oe = some g ∧ v = .pointer (some ⟨g, i * 5 + 4, none⟩)) ∨
  (hasN G id = false ∧ hasE G id = false ∧ v = .pointer none)

theorem OwnL.sliceAt {α : Type} {w : World} {E : TypeId} {sz : Nat} {R : α → List Value → Prop} {v : Value} {l : List α} {ob : Option Nat} (h : OwnL w E sz R v l ob) {i : Nat} (hi : i < l.length) :
    ∃ g cap, v = .slice (some ⟨g, 0, none⟩) l.length cap ∧ ob = some g := by
  obtain ⟨rows, h1, h2, h3⟩ := h
  obtain ⟨g, cap, hv, ho, _⟩ := h3.cell (by omega)
  exact ⟨g, cap, hv, ho⟩

set_option maxRecDepth 100000 in
set_option maxHeartbeats 1000000 in
theorem graphProps (S R : Nat → Prop) (B : Nat) (G : PGraph) (nv ev : Value) (on oe : Option Nat) (id : Int) (w : World) (h : GraphOk 68 S w B G) (hG : GInv G)
    (hb : w.heap[B]? = some (.cells #[nv, ev, .int .i64 G.next] 68 (0, 0))) (h7 : OwnL w 59 3 (RNode R w) nv G.nodes on) (h8 : OwnL w 79 5 (REdge R w) ev G.edges oe) :
    Calls Tryz.prog 82 #[.pointer (some ⟨B, 0, none⟩), .int .i64 id] w fun e w' => ∃ v, e = .returned v ∧ PropsAt G on oe id v ∧ Grow w w' := by
  have HGR := Lib.hid h; have HI := Lib.hid hG; have H7 := Lib.hid h7; have H8 := Lib.hid h8; have HB := Lib.hid hb
  have hB : B < w.heap.size := blk_lt hb
  clear h hG h7 h8 hb
  go_enter Tryz.func82, Tryz.ntmps82
  go_wp2_with fail
  refine (graphNode_ S B G id _ HGR.out HI.out).mono ?_
  rintro e w2 ⟨i, b, rfl, hbs, hg⟩
  have HBS := Lib.hid hbs; have HG2 := Lib.hid hg
  have e1 := idx_any (fun x : PNode => x.id) hbs
  have HE1 := Lib.hid e1
  have HB2 := Lib.hid ((hg.heapEq hB).trans HB.out)
  clear hbs hg e1
  cases b
  · go_wp2_with fail
    refine (graphEdge_ S B G id _ (HGR.out.grow HG2.out) HI.out).mono ?_
    rintro e w3 ⟨i3, b3, rfl, hbs, hg⟩
    have HBS3 := Lib.hid hbs; have HG3 := Lib.hid (HG2.out.step hg)
    have e1 := idx_any (fun x : PEdge => x.id) hbs
    have HE3 := Lib.hid e1
    have HB3 := Lib.hid ((hg.heapEq (blk_lt HB2.out)).trans HB2.out)
    clear hbs hg e1
    cases b3
    · go_wp2
      go_ret
      exact ⟨_, rfl, .inr (.inr ⟨HE1.out.symm, HE3.out.symm, rfl⟩), HG3.out⟩
    · obtain ⟨x, hx, hxi⟩ := idx_at (fun x : PEdge => x.id) HBS3.out
      have hil : i3 < G.edges.length := (List.getElem?_eq_some_iff.1 hx).1
      have HX := Lib.hid hx; have HXI := Lib.hid hxi
      obtain ⟨g, cap, rfl, rfl⟩ := H8.out.sliceAt hil
      have g1 : w3.cell? ⟨B, 1, none⟩ = some (.slice (some ⟨g, 0, none⟩) G.edges.length cap) := by rw [blk_cell HB3.out]; rfl
      clear hx hxi
      go_wp2
      go_ret
      exact ⟨_, rfl, .inr (.inl ⟨HE1.out.symm, HE3.out.symm, i3, x, g, HX.out, HXI.out, rfl, rfl⟩), HG3.out⟩
  · obtain ⟨x, hx, hxi⟩ := idx_at (fun x : PNode => x.id) HBS.out
    have hil : i < G.nodes.length := (List.getElem?_eq_some_iff.1 hx).1
    have HX := Lib.hid hx; have HXI := Lib.hid hxi
    obtain ⟨g, cap, rfl, rfl⟩ := H7.out.sliceAt hil
    have g0 : w2.cell? ⟨B, 0, none⟩ = some (.slice (some ⟨g, 0, none⟩) G.nodes.length cap) := by rw [blk_cell HB2.out]; rfl
    clear hx hxi
    go_wp2
    go_ret
    exact ⟨_, rfl, .inl ⟨HE1.out.symm, i, x, g, HX.out, HXI.out, rfl, rfl⟩, HG2.out⟩

/-- what lies there -/
theorem PropsAt.read {G : PGraph} {R : Nat → Prop} {nv ev : Value} {on oe : Option Nat} {id : Int} {v : Value} {w : World} (h : PropsAt G on oe id v) (hG : GInv G) (h7 : OwnL w 59 3 (RNode R w) nv G.nodes on) (h8 : OwnL w 79 5 (REdge R w) ev G.edges oe) :
    (findP G id = none ∧ v = .pointer none) ∨ ∃ g k ps pv, findP G id = some ps ∧ ps.length ≤ 8 ∧ v = .pointer (some ⟨g, k, none⟩) ∧ (on = some g ∨ oe = some g) ∧ w.cell? ⟨g, k, none⟩ = some pv ∧ w.frozen? ⟨g, k, none⟩ = false ∧ PropsR R w pv ps := by
  rcases h with ⟨hn, i, x, g, hx, hxi, rfl, rfl⟩ | ⟨hn, he, i, x, g, hx, hxi, rfl, rfl⟩ | ⟨hn, he, rfl⟩
  · obtain ⟨r, ⟨pv, rfl, hp⟩, -, hc⟩ := h7.row hx
    have hil : i < G.nodes.length := (List.getElem?_eq_some_iff.1 hx).1
    refine .inr ⟨g, _, x.props, pv, ?_, (hG.nodesB x (List.mem_of_getElem? hx)).2.2, rfl, .inl rfl, by have := hc 2 pv rfl; rwa [Nat.zero_add] at this, (h7.slot hil (by omega)).2, hp⟩
    unfold findP
    rw [find_idx (fun x : PNode => x.id) hG.nodes hx hxi]
  · obtain ⟨r, ⟨pv, rfl, hp⟩, -, hc⟩ := h8.row hx
    have hil : i < G.edges.length := (List.getElem?_eq_some_iff.1 hx).1
    refine .inr ⟨g, _, x.props, pv, ?_, (hG.edgesB x (List.mem_of_getElem? hx)).2.2, rfl, .inr rfl, by have := hc 4 pv rfl; rwa [Nat.zero_add] at this, (h8.slot hil (by omega)).2, hp⟩
    unfold findP
    rw [find_none (fun x : PNode => x.id) hn, find_idx (fun x : PEdge => x.id) hG.edges hx hxi]
  · refine .inl ⟨?_, rfl⟩
    unfold findP
    rw [find_none (fun x : PNode => x.id) hn, find_none (fun x : PEdge => x.id) he]

set_option maxRecDepth 100000 in
set_option maxHeartbeats 2000000 in
theorem maySetProp (S SC : Nat → Prop) (B : Nat) (G : PGraph) (nv ev rv iv : Value) (c : PCat) (o : POp) (w : World) (h : GraphOk 68 S w B G) (hG : GInv G) (hc : CatR SC w nv ev rv iv c) (hk : o.kind = 5) :
    Calls Tryz.prog 57 #[.pointer (some ⟨B, 0, none⟩), c.arg nv ev rv iv, o.args] w fun e w' => e = .returned (.int .i64 (mayG c o G)) ∧ Grow w w' := by
  have HGR := Lib.hid h; have HI := Lib.hid hG
  have HM := Lib.hid (show mayG c o G = (if ¬ NameOk o.name ∨ (¬ GoodV o.v ∧ ¬ BlankV o.v) then 142 else match findP G o.id with | none => 60 | some ps => if 8 < (setP ps o.name o.v).length then 3 else 0) by unfold mayG; rw [if_neg (by omega), if_neg (by omega), if_neg (by omega), if_neg (by omega), if_pos hk]; rfl)
  obtain ⟨na, nc, ea, ec, ra, rc, ia, ic, rfl, rfl, rfl, rfl⟩ := hc.slices
  have HW := Lib.hid (show ∀ o1 o2, Grow w ((w.alloc o1).alloc o2) from fun o1 o2 => ((Grow.rfl' w).allocd o1).allocd o2)
  have HOP := Lib.hid (show ∀ o1, OpAt ((w.alloc o1).alloc (.cells o.cells.toArray 41)) (w.heap.size + 1) o from fun o1 => by
    have := heap_alloc_new (w.alloc o1) (.cells o.cells.toArray 41)
    rw [World.size_alloc] at this
    exact this)
  obtain ⟨nv, ev, R, on, oe, h1, h2, h3, h4, h5, h6, h7, h8⟩ := h.parts (by decide) (by decide)
  have H7 := Lib.hid h7; have H8 := Lib.hid h8; have HB := Lib.hid h1
  have hB : B < w.heap.size := blk_lt h1
  clear h hc hG hk h1 h2 h3 h4 h5 h6 h7 h8
  go_enter Tryz.func57, Tryz.ntmps57
  go_wp2_with fail
  refine (graphProps S R B G nv ev on oe o.id _ (HGR.out.grow (HW.out _ _)) HI.out (((HW.out _ _).heapEq hB).trans HB.out) (H7.out.nodesMod (Mod.of_grow (F := fun _ => False) (HW.out _ _)) (fun _ _ => id) (fun _ _ => id)) (H8.out.edgesMod (Mod.of_grow (F := fun _ => False) (HW.out _ _)) (fun _ _ => id) (fun _ _ => id))).mono ?_
  rintro e w2 ⟨pv, rfl, hpa, hg⟩
  have HG2 := Lib.hid ((HW.out _ _).step hg); have HPA := Lib.hid hpa
  have HOP2 := Lib.hid ((HOP.out _).grow hg)
  clear hpa hg
  obtain ⟨hlt, -, -, -, -, -, c5, c6, c7, c8, -⟩ := HOP2.out.at
  have HRD := Lib.hid (HPA.out.read HI.out (H7.out.nodesMod (Mod.of_grow (F := fun _ => False) HG2.out) (fun _ _ => id) (fun _ _ => id)) (H8.out.edgesMod (Mod.of_grow (F := fun _ => False) HG2.out) (fun _ _ => id) (fun _ _ => id)))
  rcases HRD.out with ⟨hf, rfl⟩ | ⟨g, k, ps, pv', hf, hl8, rfl, hon, hcell, hfz, hp⟩
  · have HF := Lib.hid hf; clear hf
    go_wp2_with fail
    refine (valName o.name _).mono ?_
    rintro e w3 ⟨rfl, rfl⟩
    cases hn : decide (NameOk o.name)
    · have HNN := Lib.hid (of_decide_eq_false hn); clear hn
      go_wp2
      go_ret
      exact ⟨by rw [HM.out, if_pos (.inl HNN.out)]; rfl, HG2.out⟩
    · have HNN := Lib.hid (of_decide_eq_true hn); clear hn
      go_wp2_with fail
      refine (valGood o.v _).mono ?_
      rintro e w4 ⟨rfl, hg4⟩
      have HG4 := Lib.hid (HG2.out.step hg4)
      have HOP4 := Lib.hid (HOP2.out.grow hg4)
      have HG24 := Lib.hid hg4
      clear hlt c5 c6 c7 c8 hg4
      obtain ⟨hlt, -, -, -, -, -, c5, c6, c7, c8, -⟩ := HOP4.out.at
      cases hgd : decide (GoodV o.v)
      · have HGD := Lib.hid (of_decide_eq_false hgd); clear hgd
        by_cases hbl : BlankV o.v
        · have HBL := Lib.hid hbl
          obtain ⟨q1, q2, q3⟩ := hbl
          rw [q1] at c6; rw [q2] at c7; rw [q3] at c8
          clear q1 q2 q3
          go_wp2
          go_ret
          exact ⟨by rw [HM.out, if_neg (by intro h; rcases h with h | h; exact h HNN.out; exact h.2 HBL.out), HF.out]; rfl, HG4.out⟩
        · have HBL := Lib.hid hbl; clear hbl
          go_wp2
          all_goals
            go_ret
            first
              | exact ⟨by rw [HM.out, if_pos (.inr ⟨HGD.out, HBL.out⟩)]; rfl, HG4.out⟩
              | exact (HBL.out (by simp_all [BlankV])).elim
      · have HGD := Lib.hid (of_decide_eq_true hgd); clear hgd
        go_wp2
        go_ret
        exact ⟨by rw [HM.out, if_neg (by intro h; rcases h with h | h; exact h HNN.out; exact h.1 HGD.out), HF.out]; rfl, HG4.out⟩
  · have HF := Lib.hid hf; have HL8 := Lib.hid hl8
    have HCELL2 := Lib.hid hcell; have HP2 := Lib.hid hp
    clear hf hcell hfz hp hon
    go_wp2_with fail
    refine (valName o.name _).mono ?_
    rintro e w3 ⟨rfl, rfl⟩
    cases hn : decide (NameOk o.name)
    · have HNN := Lib.hid (of_decide_eq_false hn); clear hn
      go_wp2
      go_ret
      exact ⟨by rw [HM.out, if_pos (.inl HNN.out)]; rfl, HG2.out⟩
    · have HNN := Lib.hid (of_decide_eq_true hn); clear hn
      go_wp2_with fail
      refine (valGood o.v _).mono ?_
      rintro e w4 ⟨rfl, hg4⟩
      have HG4 := Lib.hid (HG2.out.step hg4)
      have HOP4 := Lib.hid (HOP2.out.grow hg4)
      have HG24 := Lib.hid hg4
      clear hlt c5 c6 c7 c8 hg4
      obtain ⟨hlt, -, -, -, -, -, c5, c6, c7, c8, -⟩ := HOP4.out.at
      have HCELL := Lib.hid ((HG24.out.cell (p := ⟨g, k, none⟩) (cell_lt HCELL2.out)).trans HCELL2.out)
      have HPR := Lib.hid (HP2.out.grow HG24.out)
      cases hgd : decide (GoodV o.v)
      · have HGD := Lib.hid (of_decide_eq_false hgd); clear hgd
        by_cases hbl : BlankV o.v
        · have HBL := Lib.hid hbl
          have HIF := Lib.hid (show ¬ (¬ NameOk o.name ∨ (¬ GoodV o.v ∧ ¬ BlankV o.v)) by intro h; rcases h with h | h; exact h HNN.out; exact h.2 HBL.out)
          obtain ⟨q1, q2, q3⟩ := hbl
          rw [q1] at c6; rw [q2] at c7; rw [q3] at c8
          clear q1 q2 q3
          go_wp2_with fail
          obtain ⟨pa, pc, rfl⟩ := HPR.out.isSlice
          have HS := Lib.hid (show ∀ w', Grow w4 w' → (w'.cell? ⟨g, k, none⟩ = some (.slice pa ps.length pc) ∧ w'.cell? ⟨w.heap.size + 1, 5, none⟩ = some (.string o.name) ∧ w'.cell? ⟨w.heap.size + 1, 6, none⟩ = some (.int .i64 o.v.kind) ∧ w'.cell? ⟨w.heap.size + 1, 7, none⟩ = some (.int .i64 o.v.n) ∧ w'.cell? ⟨w.heap.size + 1, 8, none⟩ = some (.string o.v.s)) from fun w' hg => by
            obtain ⟨-, -, -, -, -, -, d5, d6, d7, d8, -⟩ := (HOP4.out.grow hg).at
            exact ⟨(hg.cell (p := ⟨g, k, none⟩) (cell_lt HCELL.out)).trans HCELL.out, d5, d6, d7, d8⟩)
          have hcl4 := HCELL.out
          clear c6 c7 c8 c5
          obtain ⟨-, -, -, -, -, -, c5, c6, c7, c8, -⟩ := HOP4.out.at
          by_cases h8 : 8 < (setP ps o.name o.v).length
          all_goals
            have H8L := Lib.hid h8
            have h8' : decide (8 < ((setP ps o.name o.v).length : Int)) = decide (8 < (setP ps o.name o.v).length) := by
              by_cases h : 8 < (setP ps o.name o.v).length <;> simp [h] <;> omega
            clear h8
            go_wp2_with fail
            go_region_held3 (fun w' => w'.cell? ⟨g, k, none⟩ = some (.slice pa ps.length pc) ∧ w'.cell? ⟨w.heap.size + 1, 5, none⟩ = some (.string o.name) ∧ w'.cell? ⟨w.heap.size + 1, 6, none⟩ = some (.int .i64 o.v.kind) ∧ w'.cell? ⟨w.heap.size + 1, 7, none⟩ = some (.int .i64 o.v.n) ∧ w'.cell? ⟨w.heap.size + 1, 8, none⟩ = some (.string o.v.s)) (first | exact HS.out _ ((Grow.rfl' w4).drewd) | exact HS.out _ (((Grow.rfl' w4).drewd).step hg5)) (first | (go_at_call 85; refine (valSet R _ ps o.name o.v _ (HPR.out.grow ((Grow.rfl' w4).drewd)) (by omega)).mono ?_; rintro e w5 ⟨v5, rfl, hp5, hg5⟩; have HG5 := Lib.hid hg5; obtain ⟨a5, k5, rfl⟩ := hp5.isSlice; clear hp5))
            go_wp2
            go_ret
            refine ⟨?_, HG4.out.step (((Grow.rfl' w4).drewd).step HG5.out)⟩
            have e : mayG c o G = (if 8 < (setP ps o.name o.v).length then 3 else 0) := by rw [HM.out, if_neg HIF.out, HF.out]
            rw [e]
            first | (rw [if_pos H8L.out]; rfl) | (rw [if_neg H8L.out]; rfl)
        · have HBL := Lib.hid hbl
          have hnb : ¬ (o.v.kind = 0 ∧ o.v.n = 0 ∧ o.v.s = ByteArray.empty) := hbl
          clear hbl
          by_cases q1 : o.v.kind = 0
          · by_cases q2 : o.v.n = 0
            · have q3 : ¬ o.v.s = ByteArray.empty := fun h => hnb ⟨q1, q2, h⟩
              rw [q1] at c6; rw [q2] at c7
              clear hnb q1 q2
              have q3' : decide (o.v.s = ByteArray.empty) = false := decide_eq_false q3
              go_wp2
              go_ret
              exact ⟨by rw [HM.out, if_pos (.inr ⟨HGD.out, HBL.out⟩)]; rfl, HG4.out⟩
            · rw [q1] at c6
              have q2' : (o.v.n == 0) = false := by simpa using q2
              clear hnb q1
              go_wp2
              go_ret
              exact ⟨by rw [HM.out, if_pos (.inr ⟨HGD.out, HBL.out⟩)]; rfl, HG4.out⟩
          · have q1' : (o.v.kind == 0) = false := by simpa using q1
            clear hnb
            go_wp2
            go_ret
            exact ⟨by rw [HM.out, if_pos (.inr ⟨HGD.out, HBL.out⟩)]; rfl, HG4.out⟩
      · have HGD := Lib.hid (of_decide_eq_true hgd); clear hgd
        have HIF := Lib.hid (show ¬ (¬ NameOk o.name ∨ (¬ GoodV o.v ∧ ¬ BlankV o.v)) by intro h; rcases h with h | h; exact h HNN.out; exact h.1 HGD.out)
        go_wp2_with fail
        obtain ⟨pa, pc, rfl⟩ := HPR.out.isSlice
        have HS := Lib.hid (show ∀ w', Grow w4 w' → (w'.cell? ⟨g, k, none⟩ = some (.slice pa ps.length pc) ∧ w'.cell? ⟨w.heap.size + 1, 5, none⟩ = some (.string o.name) ∧ w'.cell? ⟨w.heap.size + 1, 6, none⟩ = some (.int .i64 o.v.kind) ∧ w'.cell? ⟨w.heap.size + 1, 7, none⟩ = some (.int .i64 o.v.n) ∧ w'.cell? ⟨w.heap.size + 1, 8, none⟩ = some (.string o.v.s)) from fun w' hg => by
          obtain ⟨-, -, -, -, -, -, d5, d6, d7, d8, -⟩ := (HOP4.out.grow hg).at
          exact ⟨(hg.cell (p := ⟨g, k, none⟩) (cell_lt HCELL.out)).trans HCELL.out, d5, d6, d7, d8⟩)
        have hcl4 := HCELL.out
        clear c6 c7 c8 c5
        obtain ⟨-, -, -, -, -, -, c5, c6, c7, c8, -⟩ := HOP4.out.at
        by_cases h8 : 8 < (setP ps o.name o.v).length
        all_goals
          have H8L := Lib.hid h8
          have h8' : decide (8 < ((setP ps o.name o.v).length : Int)) = decide (8 < (setP ps o.name o.v).length) := by
            by_cases h : 8 < (setP ps o.name o.v).length <;> simp [h] <;> omega
          clear h8
          go_wp2_with fail
          go_region_held3 (fun w' => w'.cell? ⟨g, k, none⟩ = some (.slice pa ps.length pc) ∧ w'.cell? ⟨w.heap.size + 1, 5, none⟩ = some (.string o.name) ∧ w'.cell? ⟨w.heap.size + 1, 6, none⟩ = some (.int .i64 o.v.kind) ∧ w'.cell? ⟨w.heap.size + 1, 7, none⟩ = some (.int .i64 o.v.n) ∧ w'.cell? ⟨w.heap.size + 1, 8, none⟩ = some (.string o.v.s)) (first | exact HS.out _ ((Grow.rfl' w4).drewd) | exact HS.out _ (((Grow.rfl' w4).drewd).step hg5)) (first | (go_at_call 85; refine (valSet R _ ps o.name o.v _ (HPR.out.grow ((Grow.rfl' w4).drewd)) (by omega)).mono ?_; rintro e w5 ⟨v5, rfl, hp5, hg5⟩; have HG5 := Lib.hid hg5; obtain ⟨a5, k5, rfl⟩ := hp5.isSlice; clear hp5))
          go_wp2
          go_ret
          refine ⟨?_, HG4.out.step (((Grow.rfl' w4).drewd).step HG5.out)⟩
          have e : mayG c o G = (if 8 < (setP ps o.name o.v).length then 3 else 0) := by rw [HM.out, if_neg HIF.out, HF.out]
          rw [e]
          first | (rw [if_pos H8L.out]; rfl) | (rw [if_neg H8L.out]; rfl)
end Go.Hg
