/- graph.mayAddNode, mayDropNode, mayAddEdge, mayDropEdge. No condition but a graph's own. -/
import Derived.Test.YtcokiflkjnekeaaGreatSpec
namespace Go.Hg
open Go.RowKit Go.Proofs

theorem enterF {P : Program} {f : FuncId} {fn : Func} {c : Code} (hf : P.funcs[f]? = some fn) (hname : (fn.name == "runtime.NumGoroutine") = false) (hb : fn.body = some c) (args : Array Value) (w : World) :
    (callFunc f args).run P w = .ok (.enter f args) w := by
  have h1 : fn.name ≠ "runtime.NumGoroutine" := by simpa using hname
  simp [callFunc, hf, h1, hb]

set_option maxRecDepth 100000 in
set_option maxHeartbeats 2000000 in
theorem mayAddNode (S SC : Nat → Prop) (B : Nat) (G : PGraph) (nv ev rv iv : Value) (c : PCat) (o : POp) (w : World) (h : GraphOk 68 S w B G) (hG : GInv G) (hc : CatR SC w nv ev rv iv c) (hk : o.kind = 1) :
    Calls Tryz.prog 49 #[.pointer (some ⟨B, 0, none⟩), c.arg nv ev rv iv, o.args] w fun e w' => e = .returned (.int .i64 (mayG c o G)) ∧ Grow w w' := by
  have HGR := Lib.hid h; have HC := Lib.hid hc; have HI := Lib.hid hG.items
  have HM := Lib.hid (show mayG c o G = (if memS o.typ (c.typesOf 1) = false then 140 else if fullG G = true then 50 else 0) by unfold mayG; rw [if_pos hk]; rfl)
  obtain ⟨na, nc, ea, ec, ra, rc, ia, ic, rfl, rfl, rfl, rfl⟩ := hc.slices
  have HW := Lib.hid (show ∀ o1 o2, Grow w ((w.alloc o1).alloc o2) from fun o1 o2 => ((Grow.rfl' w).allocd o1).allocd o2)
  clear h hc hG hk
  go_enter Tryz.func49, Tryz.ntmps49
  go_wp2_with fail
  refine (schemaHas SC _ _ _ _ c 1 o.typ _ (HC.out.grow (HW.out _ _))).mono ?_
  rintro e w2 ⟨rfl, hw2⟩
  have HG2 := Lib.hid ((HW.out _ _).step hw2); clear hw2
  cases hm : memS o.typ (c.typesOf 1)
  · have H1 := Lib.hid hm; clear hm
    go_wp2
    go_ret
    exact ⟨by rw [HM.out, if_pos H1.out]; rfl, HG2.out⟩
  · have H1 := Lib.hid hm; clear hm
    go_wp2_with fail
    refine (graphFull S B G _ (HGR.out.grow HG2.out) HI.out).mono ?_
    rintro e w3 ⟨rfl, hw3⟩
    have HG3 := Lib.hid (HG2.out.step hw3); clear hw3
    cases hf : fullG G
    all_goals
      have H2 := Lib.hid hf; clear hf
      go_wp2
      go_ret
      exact ⟨by rw [HM.out, if_neg (by rw [H1.out]; simp), H2.out]; rfl, HG3.out⟩

/-- an operation that lies in a block -/
def OpAt (w : World) (b : Nat) (o : POp) : Prop := w.heap[b]? = some (.cells o.cells.toArray 41 (0, 0))
theorem OpAt.grow {w w' : World} {b : Nat} {o : POp} (h : OpAt w b o) (g : Grow w w') : OpAt w' b o := (g.heapEq (blk_lt h)).trans h
theorem OpAt.mod {F : Nat → Prop} {w w' : World} {b : Nat} {o : POp} (h : OpAt w b o) (g : Mod F w w') (hd : ¬ F b) : OpAt w' b o := (g.block b (blk_lt h) hd).trans h
theorem OpAt.at {w : World} {b : Nat} {o : POp} (h : OpAt w b o) : b < w.heap.size ∧ w.cell? ⟨b, 0, none⟩ = some (.int .i64 o.kind) ∧ w.cell? ⟨b, 1, none⟩ = some (.int .i64 o.id) ∧ w.cell? ⟨b, 2, none⟩ = some (.string o.typ) ∧
    w.cell? ⟨b, 3, none⟩ = some (.int .i64 o.from_) ∧ w.cell? ⟨b, 4, none⟩ = some (.int .i64 o.to_) ∧ w.cell? ⟨b, 5, none⟩ = some (.string o.name) ∧ w.cell? ⟨b, 6, none⟩ = some (.int .i64 o.v.kind) ∧ w.cell? ⟨b, 7, none⟩ = some (.int .i64 o.v.n) ∧
    w.cell? ⟨b, 8, none⟩ = some (.string o.v.s) ∧ w.cell? ⟨b, 9, none⟩ = some (.bool o.cascade) :=
  ⟨blk_lt h, by rw [blk_cell h]; rfl, by rw [blk_cell h]; rfl, by rw [blk_cell h]; rfl, by rw [blk_cell h]; rfl, by rw [blk_cell h]; rfl, by rw [blk_cell h]; rfl, by rw [blk_cell h]; rfl, by rw [blk_cell h]; rfl, by rw [blk_cell h]; rfl, by rw [blk_cell h]; rfl⟩

set_option maxRecDepth 100000 in
set_option maxHeartbeats 2000000 in
theorem mayDropNode (S SC : Nat → Prop) (B : Nat) (G : PGraph) (nv ev rv iv : Value) (c : PCat) (o : POp) (w : World) (h : GraphOk 68 S w B G) (hG : GInv G) (hc : CatR SC w nv ev rv iv c) (hk : o.kind = 2) :
    Calls Tryz.prog 51 #[.pointer (some ⟨B, 0, none⟩), c.arg nv ev rv iv, o.args] w fun e w' => e = .returned (.int .i64 (mayG c o G)) ∧ Grow w w' := by
  have HGR := Lib.hid h; have HI := Lib.hid hG
  have HM := Lib.hid (show mayG c o G = (if hasN G o.id = false then 60 else if o.cascade = false ∧ (G.edges.any fun x => atE x o.id) = true then 160 else 0) by unfold mayG; rw [if_neg (by omega), if_pos hk])
  obtain ⟨na, nc, ea, ec, ra, rc, ia, ic, rfl, rfl, rfl, rfl⟩ := hc.slices
  have HW := Lib.hid (show ∀ o1 o2, Grow w ((w.alloc o1).alloc o2) from fun o1 o2 => ((Grow.rfl' w).allocd o1).allocd o2)
  have HOP := Lib.hid (show ∀ o1, OpAt ((w.alloc o1).alloc (.cells o.cells.toArray 41)) (w.heap.size + 1) o from fun o1 => by
    have := heap_alloc_new (w.alloc o1) (.cells o.cells.toArray 41)
    rw [World.size_alloc] at this
    exact this)
  clear h hc hG hk
  go_enter Tryz.func51, Tryz.ntmps51
  go_wp2_with fail
  refine (graphNode_ S B G o.id _ (HGR.out.grow (HW.out _ _)) HI.out).mono ?_
  rintro e w2 ⟨i, b, rfl, hb, hg⟩
  have HB := Lib.hid (idx_any (fun x : PNode => x.id) hb); clear hb
  have HG2 := Lib.hid ((HW.out _ _).step hg)
  obtain ⟨hlt, c0, c1, c2, c3, c4, c5, c6, c7, c8, c9⟩ := ((HOP.out _).grow hg).at
  have HOP2 := Lib.hid ((HOP.out _).grow hg)
  clear hg
  cases b
  · go_wp2
    go_ret
    exact ⟨by rw [HM.out, if_pos (show hasN G o.id = false from HB.out.symm)]; rfl, HG2.out⟩
  · have HN := Lib.hid (show ¬ hasN G o.id = false by unfold hasN; rw [← HB.out]; simp)
    cases hca : o.cascade
    · have HCA := Lib.hid hca
      rw [hca] at c9
      clear hca
      obtain ⟨na', nc', ea', ec', hB, g0, g1, g2, -, hE⟩ := (HGR.out.grow HG2.out).read
      have HE := Lib.hid hE; clear hE
      go_wp2_with fail
      refine (containsEdge S _ G.edges 76 ⟨w.heap.size + 1, 0, none⟩ (fun x => atE x o.id) _ HE.out ⟨fun args w => enterF Tryz.func76 (by kernel_rfl) rfl args w, fun x pv w' hg hp => mayDrop1 x pv _ o.id w' S hp (HOP2.out.grow hg).at.2.2.1⟩).mono ?_
      rintro e w3 ⟨rfl, hw3⟩
      have HG3 := Lib.hid (HG2.out.step hw3); clear hw3
      cases hf : G.edges.any fun x => atE x o.id
      all_goals
        have H2 := Lib.hid hf; clear hf
        go_wp2
        go_ret
        refine ⟨?_, HG3.out⟩
        rw [HM.out, if_neg HN.out, HCA.out, H2.out]
        rfl
    · have HCA := Lib.hid hca
      rw [hca] at c9
      clear hca
      go_wp2
      go_ret
      exact ⟨by rw [HM.out, if_neg HN.out, if_neg (by rw [HCA.out]; simp)]; rfl, HG2.out⟩

set_option maxRecDepth 100000 in
set_option maxHeartbeats 2000000 in
theorem mayAddEdge (S SC : Nat → Prop) (B : Nat) (G : PGraph) (nv ev rv iv : Value) (c : PCat) (o : POp) (w : World) (h : GraphOk 68 S w B G) (hG : GInv G) (hc : CatR SC w nv ev rv iv c) (hk : o.kind = 3) :
    Calls Tryz.prog 53 #[.pointer (some ⟨B, 0, none⟩), c.arg nv ev rv iv, o.args] w fun e w' => e = .returned (.int .i64 (mayG c o G)) ∧ Grow w w' := by
  have HGR := Lib.hid h; have HC := Lib.hid hc; have HI := Lib.hid hG
  have HM := Lib.hid (show mayG c o G = (if memS o.typ (c.typesOf 2) = false then 140 else if hasN G o.from_ = false ∨ hasN G o.to_ = false then 141 else if fullG G = true then 50 else 0) by unfold mayG; rw [if_neg (by omega), if_neg (by omega), if_pos hk]; rfl)
  obtain ⟨na, nc, ea, ec, ra, rc, ia, ic, rfl, rfl, rfl, rfl⟩ := hc.slices
  have HW := Lib.hid (show ∀ o1 o2, Grow w ((w.alloc o1).alloc o2) from fun o1 o2 => ((Grow.rfl' w).allocd o1).allocd o2)
  have HOP := Lib.hid (show ∀ o1, OpAt ((w.alloc o1).alloc (.cells o.cells.toArray 41)) (w.heap.size + 1) o from fun o1 => by
    have := heap_alloc_new (w.alloc o1) (.cells o.cells.toArray 41)
    rw [World.size_alloc] at this
    exact this)
  have HCT := Lib.hid (show ∀ w', Grow ((w.alloc (.cells #[.slice na c.nodes.length nc, .slice ea c.edges.length ec, .slice ra c.rules.length rc, .slice ia c.indexes.length ic, .int .i64 c.nextRule] 26)).alloc (.cells o.cells.toArray 41)) w' →
      w'.heap[w.heap.size]? = some (.cells #[.slice na c.nodes.length nc, .slice ea c.edges.length ec, .slice ra c.rules.length rc, .slice ia c.indexes.length ic, .int .i64 c.nextRule] 26 (0, 0)) from fun w' hg => by
    rw [hg.heapEq (by simp; omega), heap_alloc_old _ _ (by simp)]
    exact heap_alloc_new w _)
  clear h hc hG hk
  go_enter Tryz.func53, Tryz.ntmps53
  go_wp2_with fail
  refine (graphNode_ S B G o.from_ _ (HGR.out.grow (HW.out _ _)) HI.out).mono ?_
  rintro e w2 ⟨i, b1, rfl, hb, hg⟩
  have HB1 := Lib.hid (show b1 = hasN G o.from_ from idx_any (fun x : PNode => x.id) hb); clear hb
  have HG2 := Lib.hid ((HW.out _ _).step hg)
  have HG02 := Lib.hid hg
  obtain ⟨hlt, -, -, -, -, c4, -⟩ := ((HOP.out _).grow hg).at
  clear hg
  go_wp2_with fail
  refine (graphNode_ S B G o.to_ _ (HGR.out.grow HG2.out) HI.out).mono ?_
  rintro e w3 ⟨i3, b2, rfl, hb, hg⟩
  have HB2 := Lib.hid (show b2 = hasN G o.to_ from idx_any (fun x : PNode => x.id) hb); clear hb
  have HG3 := Lib.hid (HG2.out.step hg)
  have HG03 := Lib.hid (HG02.out.step hg)
  clear c4 hlt hg
  obtain ⟨hlt, -, -, c2, -⟩ := ((HOP.out _).grow HG03.out).at
  have hcb := HCT.out w3 HG03.out
  have hlc := blk_lt hcb
  have k0 : w3.cell? ⟨w.heap.size, 0, none⟩ = some (.slice na c.nodes.length nc) := by rw [blk_cell hcb]; rfl
  have k1 : w3.cell? ⟨w.heap.size, 1, none⟩ = some (.slice ea c.edges.length ec) := by rw [blk_cell hcb]; rfl
  have k2 : w3.cell? ⟨w.heap.size, 2, none⟩ = some (.slice ra c.rules.length rc) := by rw [blk_cell hcb]; rfl
  have k3 : w3.cell? ⟨w.heap.size, 3, none⟩ = some (.slice ia c.indexes.length ic) := by rw [blk_cell hcb]; rfl
  have k4 : w3.cell? ⟨w.heap.size, 4, none⟩ = some (.int .i64 c.nextRule) := by rw [blk_cell hcb]; rfl
  clear hcb
  go_wp2_with fail
  refine (schemaHas SC _ _ _ _ c 2 o.typ _ (HC.out.grow HG3.out)).mono ?_
  rintro e w4 ⟨rfl, hw4⟩
  have HG4 := Lib.hid (HG3.out.step hw4)
  clear hw4 k0 k1 k2 k3 k4 c2 hlt hlc
  cases hm : memS o.typ (c.typesOf 2)
  · have H1 := Lib.hid hm; clear hm
    go_wp2
    go_ret
    exact ⟨by rw [HM.out, if_pos H1.out]; rfl, HG4.out⟩
  · have H1 := Lib.hid hm; clear hm
    cases b1
    · go_wp2
      go_ret
      exact ⟨by rw [HM.out, if_neg (by rw [H1.out]; simp), if_pos (.inl HB1.out.symm)]; rfl, HG4.out⟩
    · cases b2
      · go_wp2
        go_ret
        exact ⟨by rw [HM.out, if_neg (by rw [H1.out]; simp), if_pos (.inr HB2.out.symm)]; rfl, HG4.out⟩
      · go_wp2_with fail
        refine (graphFull S B G _ (HGR.out.grow HG4.out) HI.out.items).mono ?_
        rintro e w5 ⟨rfl, hw5⟩
        have HG5 := Lib.hid (HG4.out.step hw5); clear hw5
        cases hf : fullG G
        all_goals
          have H2 := Lib.hid hf; clear hf
          go_wp2
          go_ret
          refine ⟨?_, HG5.out⟩
          rw [HM.out, if_neg (by rw [H1.out]; simp), if_neg (by rw [← HB1.out, ← HB2.out]; simp), H2.out]
          rfl

set_option maxRecDepth 100000 in
set_option maxHeartbeats 2000000 in
theorem mayDropEdge (S SC : Nat → Prop) (B : Nat) (G : PGraph) (nv ev rv iv : Value) (c : PCat) (o : POp) (w : World) (h : GraphOk 68 S w B G) (hG : GInv G) (hc : CatR SC w nv ev rv iv c) (hk : o.kind = 4) :
    Calls Tryz.prog 55 #[.pointer (some ⟨B, 0, none⟩), c.arg nv ev rv iv, o.args] w fun e w' => e = .returned (.int .i64 (mayG c o G)) ∧ Grow w w' := by
  have HGR := Lib.hid h; have HI := Lib.hid hG
  have HM := Lib.hid (show mayG c o G = (if hasE G o.id = false then 60 else 0) by unfold mayG; rw [if_neg (by omega), if_neg (by omega), if_neg (by omega), if_pos hk])
  obtain ⟨na, nc, ea, ec, ra, rc, ia, ic, rfl, rfl, rfl, rfl⟩ := hc.slices
  have HW := Lib.hid (show ∀ o1 o2, Grow w ((w.alloc o1).alloc o2) from fun o1 o2 => ((Grow.rfl' w).allocd o1).allocd o2)
  clear h hc hG hk
  go_enter Tryz.func55, Tryz.ntmps55
  go_wp2_with fail
  refine (graphEdge_ S B G o.id _ (HGR.out.grow (HW.out _ _)) HI.out).mono ?_
  rintro e w2 ⟨i, b, rfl, hb, hg⟩
  have HB := Lib.hid (show b = hasE G o.id from idx_any (fun x : PEdge => x.id) hb); clear hb
  have HG2 := Lib.hid ((HW.out _ _).step hg)
  clear hg
  cases b
  all_goals
    go_wp2
    go_ret
    exact ⟨by rw [HM.out, ← HB.out]; rfl, HG2.out⟩
end Go.Hg
