/- graph.May, Do. No condition but a graph's own. Printed by genmay.py. -/
import Derived.Test.YtcokiflkjnekeaaGreatPropB
import Derived.Test.YtcokiflkjnekeaaGreatActs
namespace Go.Hg
open Go.RowKit Go.Proofs

/-- a catalog that lies in a block -/
def CatAt (w : World) (b : Nat) (nv ev rv iv : Value) (c : PCat) : Prop := w.heap[b]? = some (.cells #[nv, ev, rv, iv, .int .i64 c.nextRule] 26 (0, 0))
theorem CatAt.grow {w w' : World} {b : Nat} {nv ev rv iv : Value} {c : PCat} (h : CatAt w b nv ev rv iv c) (g : Grow w w') : CatAt w' b nv ev rv iv c := (g.heapEq (blk_lt h)).trans h
theorem CatAt.at {w : World} {b : Nat} {nv ev rv iv : Value} {c : PCat} (h : CatAt w b nv ev rv iv c) : b < w.heap.size ∧ w.cell? ⟨b, 0, none⟩ = some nv ∧ w.cell? ⟨b, 1, none⟩ = some ev ∧ w.cell? ⟨b, 2, none⟩ = some rv ∧ w.cell? ⟨b, 3, none⟩ = some iv ∧ w.cell? ⟨b, 4, none⟩ = some (.int .i64 c.nextRule) :=
  ⟨blk_lt h, by rw [blk_cell h]; rfl, by rw [blk_cell h]; rfl, by rw [blk_cell h]; rfl, by rw [blk_cell h]; rfl, by rw [blk_cell h]; rfl⟩
theorem boxes (w : World) (nv ev rv iv : Value) (c : PCat) (o : POp) : CatAt ((w.alloc (.cells #[nv, ev, rv, iv, .int .i64 c.nextRule] 26)).alloc (.cells o.cells.toArray 41)) w.heap.size nv ev rv iv c ∧ OpAt ((w.alloc (.cells #[nv, ev, rv, iv, .int .i64 c.nextRule] 26)).alloc (.cells o.cells.toArray 41)) (w.heap.size + 1) o := by
  constructor
  · unfold CatAt
    rw [heap_alloc_old _ _ (by simp)]
    exact heap_alloc_new w _
  · have := heap_alloc_new (w.alloc (.cells #[nv, ev, rv, iv, .int .i64 c.nextRule] 26)) (.cells o.cells.toArray 41)
    rw [World.size_alloc] at this
    exact this

set_option maxRecDepth 100000 in
set_option maxHeartbeats 1000000 in
/-- the graph that nobody made -/
theorem graphMayNil (nv ev rv iv : Value) (c : PCat) (o : POp) (SC : Nat → Prop) (w : World) (hc : CatR SC w nv ev rv iv c) :
    Calls Tryz.prog 10 #[.pointer none, c.arg nv ev rv iv, o.args] w fun e w' => e = .returned (.int .i64 1) ∧ Grow w w' := by
  obtain ⟨na, nc, ea, ec, ra, rc, ia, ic, rfl, rfl, rfl, rfl⟩ := hc.slices
  have HW := Lib.hid (show ∀ o1 o2, Grow w ((w.alloc o1).alloc o2) from fun o1 o2 => ((Grow.rfl' w).allocd o1).allocd o2)
  clear hc
  go_enter Tryz.func10, Tryz.ntmps10
  go_wp2
  go_ret
  exact ⟨rfl, HW.out _ _⟩

set_option maxRecDepth 100000 in
set_option maxHeartbeats 1000000 in
theorem may1 (S SC : Nat → Prop) (B : Nat) (G : PGraph) (nv ev rv iv : Value) (c : PCat) (o : POp) (w : World) (h : GraphOk 68 S w B G) (hG : GInv G) (hc : CatR SC w nv ev rv iv c) (hk : o.kind = 1) :
    Calls Tryz.prog 10 #[.pointer (some ⟨B, 0, none⟩), c.arg nv ev rv iv, o.args] w fun e w' => e = .returned (.int .i64 (mayG c o G)) ∧ Grow w w' := by
  have HGR := Lib.hid h; have HI := Lib.hid hG; have HC := Lib.hid hc
  obtain ⟨kind, id, typ, from_, to_, name, v, cascade⟩ := o
  subst hk
  obtain ⟨na, nc, ea, ec, ra, rc, ia, ic, rfl, rfl, rfl, rfl⟩ := hc.slices
  have HW := Lib.hid (show ∀ o1 o2, Grow w ((w.alloc o1).alloc o2) from fun o1 o2 => ((Grow.rfl' w).allocd o1).allocd o2)
  have HBX := Lib.hid (boxes w (.slice na c.nodes.length nc) (.slice ea c.edges.length ec) (.slice ra c.rules.length rc) (.slice ia c.indexes.length ic) c ⟨1, id, typ, from_, to_, name, v, cascade⟩)
  clear h hc hG
  go_enter Tryz.func10, Tryz.ntmps10
  go_wp2_with fail
  refine (acts1 _).mono ?_
  rintro e w2 ⟨rfl, hg⟩
  have HG2 := Lib.hid ((HW.out _ _).step hg)
  obtain ⟨hl1, k0, k1, k2, k3, k4⟩ := (HBX.out.1.grow hg).at
  obtain ⟨hl2, c0, c1, c2, c3, c4, c5, c6, c7, c8, c9⟩ := (HBX.out.2.grow hg).at
  clear hg
  go_wp2_with fail
  refine (mayAddNode S SC B G _ _ _ _ c ⟨1, id, typ, from_, to_, name, v, cascade⟩ _ (HGR.out.grow (HG2.out.allocd _)) HI.out (HC.out.grow (HG2.out.allocd _)) rfl).mono ?_
  rintro e w3 ⟨rfl, hg⟩
  have HG3 := Lib.hid ((HG2.out.allocd _).step hg)
  clear hg k0 k1 k2 k3 k4 c0 c1 c2 c3 c4 c5 c6 c7 c8 c9
  go_wp2
  go_ret
  exact ⟨rfl, HG3.out⟩

set_option maxRecDepth 100000 in
set_option maxHeartbeats 1000000 in
theorem may2 (S SC : Nat → Prop) (B : Nat) (G : PGraph) (nv ev rv iv : Value) (c : PCat) (o : POp) (w : World) (h : GraphOk 68 S w B G) (hG : GInv G) (hc : CatR SC w nv ev rv iv c) (hk : o.kind = 2) :
    Calls Tryz.prog 10 #[.pointer (some ⟨B, 0, none⟩), c.arg nv ev rv iv, o.args] w fun e w' => e = .returned (.int .i64 (mayG c o G)) ∧ Grow w w' := by
  have HGR := Lib.hid h; have HI := Lib.hid hG; have HC := Lib.hid hc
  obtain ⟨kind, id, typ, from_, to_, name, v, cascade⟩ := o
  subst hk
  obtain ⟨na, nc, ea, ec, ra, rc, ia, ic, rfl, rfl, rfl, rfl⟩ := hc.slices
  have HW := Lib.hid (show ∀ o1 o2, Grow w ((w.alloc o1).alloc o2) from fun o1 o2 => ((Grow.rfl' w).allocd o1).allocd o2)
  have HBX := Lib.hid (boxes w (.slice na c.nodes.length nc) (.slice ea c.edges.length ec) (.slice ra c.rules.length rc) (.slice ia c.indexes.length ic) c ⟨2, id, typ, from_, to_, name, v, cascade⟩)
  clear h hc hG
  go_enter Tryz.func10, Tryz.ntmps10
  go_wp2_with fail
  refine (acts2 _).mono ?_
  rintro e w2 ⟨rfl, hg⟩
  have HG2 := Lib.hid ((HW.out _ _).step hg)
  obtain ⟨hl1, k0, k1, k2, k3, k4⟩ := (HBX.out.1.grow hg).at
  obtain ⟨hl2, c0, c1, c2, c3, c4, c5, c6, c7, c8, c9⟩ := (HBX.out.2.grow hg).at
  clear hg
  go_wp2_with fail
  refine (mayDropNode S SC B G _ _ _ _ c ⟨2, id, typ, from_, to_, name, v, cascade⟩ _ (HGR.out.grow (HG2.out.allocd _)) HI.out (HC.out.grow (HG2.out.allocd _)) rfl).mono ?_
  rintro e w3 ⟨rfl, hg⟩
  have HG3 := Lib.hid ((HG2.out.allocd _).step hg)
  clear hg k0 k1 k2 k3 k4 c0 c1 c2 c3 c4 c5 c6 c7 c8 c9
  go_wp2
  go_ret
  exact ⟨rfl, HG3.out⟩

set_option maxRecDepth 100000 in
set_option maxHeartbeats 1000000 in
theorem may3 (S SC : Nat → Prop) (B : Nat) (G : PGraph) (nv ev rv iv : Value) (c : PCat) (o : POp) (w : World) (h : GraphOk 68 S w B G) (hG : GInv G) (hc : CatR SC w nv ev rv iv c) (hk : o.kind = 3) :
    Calls Tryz.prog 10 #[.pointer (some ⟨B, 0, none⟩), c.arg nv ev rv iv, o.args] w fun e w' => e = .returned (.int .i64 (mayG c o G)) ∧ Grow w w' := by
  have HGR := Lib.hid h; have HI := Lib.hid hG; have HC := Lib.hid hc
  obtain ⟨kind, id, typ, from_, to_, name, v, cascade⟩ := o
  subst hk
  obtain ⟨na, nc, ea, ec, ra, rc, ia, ic, rfl, rfl, rfl, rfl⟩ := hc.slices
  have HW := Lib.hid (show ∀ o1 o2, Grow w ((w.alloc o1).alloc o2) from fun o1 o2 => ((Grow.rfl' w).allocd o1).allocd o2)
  have HBX := Lib.hid (boxes w (.slice na c.nodes.length nc) (.slice ea c.edges.length ec) (.slice ra c.rules.length rc) (.slice ia c.indexes.length ic) c ⟨3, id, typ, from_, to_, name, v, cascade⟩)
  clear h hc hG
  go_enter Tryz.func10, Tryz.ntmps10
  go_wp2_with fail
  refine (acts3 _).mono ?_
  rintro e w2 ⟨rfl, hg⟩
  have HG2 := Lib.hid ((HW.out _ _).step hg)
  obtain ⟨hl1, k0, k1, k2, k3, k4⟩ := (HBX.out.1.grow hg).at
  obtain ⟨hl2, c0, c1, c2, c3, c4, c5, c6, c7, c8, c9⟩ := (HBX.out.2.grow hg).at
  clear hg
  go_wp2_with fail
  refine (mayAddEdge S SC B G _ _ _ _ c ⟨3, id, typ, from_, to_, name, v, cascade⟩ _ (HGR.out.grow (HG2.out.allocd _)) HI.out (HC.out.grow (HG2.out.allocd _)) rfl).mono ?_
  rintro e w3 ⟨rfl, hg⟩
  have HG3 := Lib.hid ((HG2.out.allocd _).step hg)
  clear hg k0 k1 k2 k3 k4 c0 c1 c2 c3 c4 c5 c6 c7 c8 c9
  go_wp2
  go_ret
  exact ⟨rfl, HG3.out⟩

set_option maxRecDepth 100000 in
set_option maxHeartbeats 1000000 in
theorem may4 (S SC : Nat → Prop) (B : Nat) (G : PGraph) (nv ev rv iv : Value) (c : PCat) (o : POp) (w : World) (h : GraphOk 68 S w B G) (hG : GInv G) (hc : CatR SC w nv ev rv iv c) (hk : o.kind = 4) :
    Calls Tryz.prog 10 #[.pointer (some ⟨B, 0, none⟩), c.arg nv ev rv iv, o.args] w fun e w' => e = .returned (.int .i64 (mayG c o G)) ∧ Grow w w' := by
  have HGR := Lib.hid h; have HI := Lib.hid hG; have HC := Lib.hid hc
  obtain ⟨kind, id, typ, from_, to_, name, v, cascade⟩ := o
  subst hk
  obtain ⟨na, nc, ea, ec, ra, rc, ia, ic, rfl, rfl, rfl, rfl⟩ := hc.slices
  have HW := Lib.hid (show ∀ o1 o2, Grow w ((w.alloc o1).alloc o2) from fun o1 o2 => ((Grow.rfl' w).allocd o1).allocd o2)
  have HBX := Lib.hid (boxes w (.slice na c.nodes.length nc) (.slice ea c.edges.length ec) (.slice ra c.rules.length rc) (.slice ia c.indexes.length ic) c ⟨4, id, typ, from_, to_, name, v, cascade⟩)
  clear h hc hG
  go_enter Tryz.func10, Tryz.ntmps10
  go_wp2_with fail
  refine (acts4 _).mono ?_
  rintro e w2 ⟨rfl, hg⟩
  have HG2 := Lib.hid ((HW.out _ _).step hg)
  obtain ⟨hl1, k0, k1, k2, k3, k4⟩ := (HBX.out.1.grow hg).at
  obtain ⟨hl2, c0, c1, c2, c3, c4, c5, c6, c7, c8, c9⟩ := (HBX.out.2.grow hg).at
  clear hg
  go_wp2_with fail
  refine (mayDropEdge S SC B G _ _ _ _ c ⟨4, id, typ, from_, to_, name, v, cascade⟩ _ (HGR.out.grow (HG2.out.allocd _)) HI.out (HC.out.grow (HG2.out.allocd _)) rfl).mono ?_
  rintro e w3 ⟨rfl, hg⟩
  have HG3 := Lib.hid ((HG2.out.allocd _).step hg)
  clear hg k0 k1 k2 k3 k4 c0 c1 c2 c3 c4 c5 c6 c7 c8 c9
  go_wp2
  go_ret
  exact ⟨rfl, HG3.out⟩

set_option maxRecDepth 100000 in
set_option maxHeartbeats 1000000 in
theorem may5 (S SC : Nat → Prop) (B : Nat) (G : PGraph) (nv ev rv iv : Value) (c : PCat) (o : POp) (w : World) (h : GraphOk 68 S w B G) (hG : GInv G) (hc : CatR SC w nv ev rv iv c) (hk : o.kind = 5) :
    Calls Tryz.prog 10 #[.pointer (some ⟨B, 0, none⟩), c.arg nv ev rv iv, o.args] w fun e w' => e = .returned (.int .i64 (mayG c o G)) ∧ Grow w w' := by
  have HGR := Lib.hid h; have HI := Lib.hid hG; have HC := Lib.hid hc
  obtain ⟨kind, id, typ, from_, to_, name, v, cascade⟩ := o
  subst hk
  obtain ⟨na, nc, ea, ec, ra, rc, ia, ic, rfl, rfl, rfl, rfl⟩ := hc.slices
  have HW := Lib.hid (show ∀ o1 o2, Grow w ((w.alloc o1).alloc o2) from fun o1 o2 => ((Grow.rfl' w).allocd o1).allocd o2)
  have HBX := Lib.hid (boxes w (.slice na c.nodes.length nc) (.slice ea c.edges.length ec) (.slice ra c.rules.length rc) (.slice ia c.indexes.length ic) c ⟨5, id, typ, from_, to_, name, v, cascade⟩)
  clear h hc hG
  go_enter Tryz.func10, Tryz.ntmps10
  go_wp2_with fail
  refine (acts5 _).mono ?_
  rintro e w2 ⟨rfl, hg⟩
  have HG2 := Lib.hid ((HW.out _ _).step hg)
  obtain ⟨hl1, k0, k1, k2, k3, k4⟩ := (HBX.out.1.grow hg).at
  obtain ⟨hl2, c0, c1, c2, c3, c4, c5, c6, c7, c8, c9⟩ := (HBX.out.2.grow hg).at
  clear hg
  go_wp2_with fail
  refine (maySetProp S SC B G _ _ _ _ c ⟨5, id, typ, from_, to_, name, v, cascade⟩ _ (HGR.out.grow (HG2.out.allocd _)) HI.out (HC.out.grow (HG2.out.allocd _)) rfl).mono ?_
  rintro e w3 ⟨rfl, hg⟩
  have HG3 := Lib.hid ((HG2.out.allocd _).step hg)
  clear hg k0 k1 k2 k3 k4 c0 c1 c2 c3 c4 c5 c6 c7 c8 c9
  go_wp2
  go_ret
  exact ⟨rfl, HG3.out⟩

set_option maxRecDepth 100000 in
set_option maxHeartbeats 1000000 in
theorem may0 (SC : Nat → Prop) (B : Nat) (G : PGraph) (nv ev rv iv : Value) (c : PCat) (o : POp) (w : World) (hc : CatR SC w nv ev rv iv c) (h1 : o.kind ≠ 1) (h2 : o.kind ≠ 2) (h3 : o.kind ≠ 3) (h4 : o.kind ≠ 4) (h5 : o.kind ≠ 5) :
    Calls Tryz.prog 10 #[.pointer (some ⟨B, 0, none⟩), c.arg nv ev rv iv, o.args] w fun e w' => e = .returned (.int .i64 (mayG c o G)) ∧ Grow w w' := by
  have HM := Lib.hid (show mayG c o G = 150 by unfold mayG; rw [if_neg h1, if_neg h2, if_neg h3, if_neg h4, if_neg h5])
  have HA := Lib.hid (fun w => acts0 o.kind w h1 h2 h3 h4 h5)
  obtain ⟨na, nc, ea, ec, ra, rc, ia, ic, rfl, rfl, rfl, rfl⟩ := hc.slices
  have HW := Lib.hid (show ∀ o1 o2, Grow w ((w.alloc o1).alloc o2) from fun o1 o2 => ((Grow.rfl' w).allocd o1).allocd o2)
  clear hc h1 h2 h3 h4 h5
  go_enter Tryz.func10, Tryz.ntmps10
  go_wp2_with fail
  refine (HA.out _).mono ?_
  rintro e w2 ⟨rfl, hg⟩
  have HG2 := Lib.hid ((HW.out _ _).step hg)
  clear hg
  go_wp2
  go_ret
  exact ⟨by rw [HM.out]; rfl, HG2.out.allocd _⟩

theorem graphMay (S SC : Nat → Prop) (B : Nat) (G : PGraph) (nv ev rv iv : Value) (c : PCat) (o : POp) (w : World) (h : GraphOk 68 S w B G) (hG : GInv G) (hc : CatR SC w nv ev rv iv c) :
    Calls Tryz.prog 10 #[.pointer (some ⟨B, 0, none⟩), c.arg nv ev rv iv, o.args] w fun e w' => e = .returned (.int .i64 (mayG c o G)) ∧ Grow w w' := by
  by_cases h1 : o.kind = 1
  · exact may1 S SC B G nv ev rv iv c o w h hG hc h1
  by_cases h2 : o.kind = 2
  · exact may2 S SC B G nv ev rv iv c o w h hG hc h2
  by_cases h3 : o.kind = 3
  · exact may3 S SC B G nv ev rv iv c o w h hG hc h3
  by_cases h4 : o.kind = 4
  · exact may4 S SC B G nv ev rv iv c o w h hG hc h4
  by_cases h5 : o.kind = 5
  · exact may5 S SC B G nv ev rv iv c o w h hG hc h5
  exact may0 SC B G nv ev rv iv c o w hc h1 h2 h3 h4 h5

set_option maxRecDepth 100000 in
set_option maxHeartbeats 1000000 in
theorem graphDoNil (nv ev rv iv : Value) (c : PCat) (o : POp) (SC : Nat → Prop) (w : World) (hc : CatR SC w nv ev rv iv c) :
    Calls Tryz.prog 11 #[.pointer none, c.arg nv ev rv iv, o.args] w fun e w' => e = .returned (.tuple #[.int .i64 0, .int .i64 1]) ∧ Grow w w' := by
  have HC := Lib.hid hc
  obtain ⟨na, nc, ea, ec, ra, rc, ia, ic, rfl, rfl, rfl, rfl⟩ := hc.slices
  have HW := Lib.hid (show ∀ o1 o2, Grow w ((w.alloc o1).alloc o2) from fun o1 o2 => ((Grow.rfl' w).allocd o1).allocd o2)
  clear hc
  go_enter Tryz.func11, Tryz.ntmps11
  go_wp2_with fail
  refine (graphMayNil _ _ _ _ c o SC _ (HC.out.grow (HW.out _ _))).mono ?_
  rintro e w2 ⟨rfl, hg⟩
  have HG2 := Lib.hid ((HW.out _ _).step hg)
  clear hg
  go_wp2
  go_ret2
  exact ⟨rfl, HG2.out⟩

/-- what Do leaves -/
def DoPost (S : Nat → Prop) (B : Nat) (G : PGraph) (c : PCat) (o : POp) (w : World) (e : Ending) (w' : World) : Prop :=
  e = .returned (.tuple #[.int .i64 (if mayG c o G = 0 then idG o G else 0), .int .i64 (mayG c o G)]) ∧ GraphOk 68 (fun b => S b ∨ w.heap.size ≤ b) w' B (stepG c o G) ∧ Mod S w w'

set_option maxRecDepth 100000 in
set_option maxHeartbeats 1000000 in
theorem doNo (S SC : Nat → Prop) (B : Nat) (G : PGraph) (nv ev rv iv : Value) (c : PCat) (o : POp) (w : World) (h : GraphOk 68 S w B G) (hG : GInv G) (hc : CatR SC w nv ev rv iv c) (hm : ¬ mayG c o G = 0) :
    Calls Tryz.prog 11 #[.pointer (some ⟨B, 0, none⟩), c.arg nv ev rv iv, o.args] w (DoPost S B G c o w) := by
  have HGR := Lib.hid h; have HI := Lib.hid hG; have HC := Lib.hid hc; have HM := Lib.hid hm
  obtain ⟨na, nc, ea, ec, ra, rc, ia, ic, rfl, rfl, rfl, rfl⟩ := hc.slices
  have HW := Lib.hid (show ∀ o1 o2, Grow w ((w.alloc o1).alloc o2) from fun o1 o2 => ((Grow.rfl' w).allocd o1).allocd o2)
  have hmb : (mayG c o G == 0) = false := by simpa using hm
  clear h hc hG
  go_enter Tryz.func11, Tryz.ntmps11
  go_wp2_with fail
  refine (graphMay S SC B G _ _ _ _ c o _ (HGR.out.grow (HW.out _ _)) HI.out (HC.out.grow (HW.out _ _))).mono ?_
  rintro e w2 ⟨rfl, hg⟩
  have HG2 := Lib.hid ((HW.out _ _).step hg)
  clear hg
  go_wp2
  go_ret2
  refine ⟨by rw [if_neg HM.out]; rfl, ?_, Mod.of_grow HG2.out⟩
  unfold stepG
  rw [if_neg HM.out]
  exact (HGR.out.grow HG2.out).sub (fun b hb => .inl hb)

theorem may_full1 {c : PCat} {G : PGraph} {id from_ to_ : Int} {typ name : ByteArray} {v : PVal} {cascade : Bool} (h : mayG c ⟨1, id, typ, from_, to_, name, v, cascade⟩ G = 0) : fullG G = false := by
  unfold mayG at h
  cases hf : fullG G
  · rfl
  · simp only [hf] at h
    simp at h
    split at h <;> simp at h
set_option maxRecDepth 100000 in
set_option maxHeartbeats 1000000 in
theorem do1 (S SC : Nat → Prop) (B : Nat) (G : PGraph) (nv ev rv iv : Value) (c : PCat) (o : POp) (w : World) (h : GraphOk 68 S w B G) (hG : GInv G) (hc : CatR SC w nv ev rv iv c) (hm : mayG c o G = 0) (hk : o.kind = 1) :
    Calls Tryz.prog 11 #[.pointer (some ⟨B, 0, none⟩), c.arg nv ev rv iv, o.args] w (DoPost S B G c o w) := by
  have HGR := Lib.hid h; have HI := Lib.hid hG; have HC := Lib.hid hc
  obtain ⟨kind, id, typ, from_, to_, name, v, cascade⟩ := o
  subst hk
  have HM := Lib.hid hm
  obtain ⟨na, nc, ea, ec, ra, rc, ia, ic, rfl, rfl, rfl, rfl⟩ := hc.slices
  have HW := Lib.hid (show ∀ o1 o2, Grow w ((w.alloc o1).alloc o2) from fun o1 o2 => ((Grow.rfl' w).allocd o1).allocd o2)
  have HBX := Lib.hid (boxes w (.slice na c.nodes.length nc) (.slice ea c.edges.length ec) (.slice ra c.rules.length rc) (.slice ia c.indexes.length ic) c ⟨1, id, typ, from_, to_, name, v, cascade⟩)
  clear h hc hG hm
  go_enter Tryz.func11, Tryz.ntmps11
  go_wp2_with fail
  refine (graphMay S SC B G _ _ _ _ c ⟨1, id, typ, from_, to_, name, v, cascade⟩ _ (HGR.out.grow (HW.out _ _)) HI.out (HC.out.grow (HW.out _ _))).mono ?_
  rintro e w2 ⟨rfl, hg⟩
  rw [HM.out]
  have HG2 := Lib.hid ((HW.out _ _).step hg)
  have HOP2 := Lib.hid (HBX.out.2.grow hg)
  obtain ⟨hl2, c0, -⟩ := HOP2.out.at
  clear hg
  go_wp2_with fail
  refine (acts1 _).mono ?_
  rintro e w3 ⟨rfl, hg⟩
  have HG3 := Lib.hid (HG2.out.step hg)
  clear hl2 c0
  obtain ⟨hl2, c0, c1, c2, c3, c4, c5, c6, c7, c8, c9⟩ := (HOP2.out.grow hg).at
  clear hg
  go_wp2_with fail
  refine (addNode S B G ⟨1, id, typ, from_, to_, name, v, cascade⟩ _ (HGR.out.grow (HG3.out.allocd _)) HI.out (may_full1 HM.out)).mono ?_
  rintro e w4 ⟨rfl, hgr, hmd⟩
  have HGR4 := Lib.hid hgr; have HMD := Lib.hid ((Mod.of_grow (HG3.out.allocd _)).step hmd)
  clear hgr hmd c0 c1 c2 c3 c4 c5 c6 c7 c8 c9
  go_wp2
  go_ret2
  refine ⟨by rw [if_pos HM.out, HM.out]; rfl, ?_, HMD.out⟩
  unfold stepG
  rw [if_pos HM.out]
  exact HGR4.out.sub (fun b hb => hb.imp (fun x => x) (fun h => Nat.le_trans (HG3.out.allocd _).size h))

theorem may_has2 {c : PCat} {G : PGraph} {id from_ to_ : Int} {typ name : ByteArray} {v : PVal} {cascade : Bool} (h : mayG c ⟨2, id, typ, from_, to_, name, v, cascade⟩ G = 0) : hasN G id = true := by
  unfold mayG at h
  cases hf : hasN G id
  · simp [hf] at h
  · rfl
set_option maxRecDepth 100000 in
set_option maxHeartbeats 1000000 in
theorem do2 (S SC : Nat → Prop) (B : Nat) (G : PGraph) (nv ev rv iv : Value) (c : PCat) (o : POp) (w : World) (h : GraphOk 68 S w B G) (hG : GInv G) (hc : CatR SC w nv ev rv iv c) (hm : mayG c o G = 0) (hk : o.kind = 2) :
    Calls Tryz.prog 11 #[.pointer (some ⟨B, 0, none⟩), c.arg nv ev rv iv, o.args] w (DoPost S B G c o w) := by
  have HGR := Lib.hid h; have HI := Lib.hid hG; have HC := Lib.hid hc
  obtain ⟨kind, id, typ, from_, to_, name, v, cascade⟩ := o
  subst hk
  have HM := Lib.hid hm
  obtain ⟨na, nc, ea, ec, ra, rc, ia, ic, rfl, rfl, rfl, rfl⟩ := hc.slices
  have HW := Lib.hid (show ∀ o1 o2, Grow w ((w.alloc o1).alloc o2) from fun o1 o2 => ((Grow.rfl' w).allocd o1).allocd o2)
  have HBX := Lib.hid (boxes w (.slice na c.nodes.length nc) (.slice ea c.edges.length ec) (.slice ra c.rules.length rc) (.slice ia c.indexes.length ic) c ⟨2, id, typ, from_, to_, name, v, cascade⟩)
  clear h hc hG hm
  go_enter Tryz.func11, Tryz.ntmps11
  go_wp2_with fail
  refine (graphMay S SC B G _ _ _ _ c ⟨2, id, typ, from_, to_, name, v, cascade⟩ _ (HGR.out.grow (HW.out _ _)) HI.out (HC.out.grow (HW.out _ _))).mono ?_
  rintro e w2 ⟨rfl, hg⟩
  rw [HM.out]
  have HG2 := Lib.hid ((HW.out _ _).step hg)
  have HOP2 := Lib.hid (HBX.out.2.grow hg)
  obtain ⟨hl2, c0, -⟩ := HOP2.out.at
  clear hg
  go_wp2_with fail
  refine (acts2 _).mono ?_
  rintro e w3 ⟨rfl, hg⟩
  have HG3 := Lib.hid (HG2.out.step hg)
  clear hl2 c0
  obtain ⟨hl2, c0, c1, c2, c3, c4, c5, c6, c7, c8, c9⟩ := (HOP2.out.grow hg).at
  clear hg
  go_wp2_with fail
  refine (dropNode S B G ⟨2, id, typ, from_, to_, name, v, cascade⟩ _ (HGR.out.grow (HG3.out.allocd _)) HI.out (may_has2 HM.out)).mono ?_
  rintro e w4 ⟨rfl, hgr, hmd⟩
  have HGR4 := Lib.hid hgr; have HMD := Lib.hid ((Mod.of_grow (HG3.out.allocd _)).step hmd)
  clear hgr hmd c0 c1 c2 c3 c4 c5 c6 c7 c8 c9
  go_wp2
  go_ret2
  refine ⟨by rw [if_pos HM.out, HM.out]; rfl, ?_, HMD.out⟩
  unfold stepG
  rw [if_pos HM.out]
  exact HGR4.out.sub (fun b hb => .inl hb)

theorem may_full3 {c : PCat} {G : PGraph} {id from_ to_ : Int} {typ name : ByteArray} {v : PVal} {cascade : Bool} (h : mayG c ⟨3, id, typ, from_, to_, name, v, cascade⟩ G = 0) : fullG G = false := by
  unfold mayG at h
  cases hf : fullG G
  · rfl
  · simp only [hf] at h
    simp at h
    repeat (first | (split at h) | (simp at h))
set_option maxRecDepth 100000 in
set_option maxHeartbeats 1000000 in
theorem do3 (S SC : Nat → Prop) (B : Nat) (G : PGraph) (nv ev rv iv : Value) (c : PCat) (o : POp) (w : World) (h : GraphOk 68 S w B G) (hG : GInv G) (hc : CatR SC w nv ev rv iv c) (hm : mayG c o G = 0) (hk : o.kind = 3) :
    Calls Tryz.prog 11 #[.pointer (some ⟨B, 0, none⟩), c.arg nv ev rv iv, o.args] w (DoPost S B G c o w) := by
  have HGR := Lib.hid h; have HI := Lib.hid hG; have HC := Lib.hid hc
  obtain ⟨kind, id, typ, from_, to_, name, v, cascade⟩ := o
  subst hk
  have HM := Lib.hid hm
  obtain ⟨na, nc, ea, ec, ra, rc, ia, ic, rfl, rfl, rfl, rfl⟩ := hc.slices
  have HW := Lib.hid (show ∀ o1 o2, Grow w ((w.alloc o1).alloc o2) from fun o1 o2 => ((Grow.rfl' w).allocd o1).allocd o2)
  have HBX := Lib.hid (boxes w (.slice na c.nodes.length nc) (.slice ea c.edges.length ec) (.slice ra c.rules.length rc) (.slice ia c.indexes.length ic) c ⟨3, id, typ, from_, to_, name, v, cascade⟩)
  clear h hc hG hm
  go_enter Tryz.func11, Tryz.ntmps11
  go_wp2_with fail
  refine (graphMay S SC B G _ _ _ _ c ⟨3, id, typ, from_, to_, name, v, cascade⟩ _ (HGR.out.grow (HW.out _ _)) HI.out (HC.out.grow (HW.out _ _))).mono ?_
  rintro e w2 ⟨rfl, hg⟩
  rw [HM.out]
  have HG2 := Lib.hid ((HW.out _ _).step hg)
  have HOP2 := Lib.hid (HBX.out.2.grow hg)
  obtain ⟨hl2, c0, -⟩ := HOP2.out.at
  clear hg
  go_wp2_with fail
  refine (acts3 _).mono ?_
  rintro e w3 ⟨rfl, hg⟩
  have HG3 := Lib.hid (HG2.out.step hg)
  clear hl2 c0
  obtain ⟨hl2, c0, c1, c2, c3, c4, c5, c6, c7, c8, c9⟩ := (HOP2.out.grow hg).at
  clear hg
  go_wp2_with fail
  refine (addEdge S B G ⟨3, id, typ, from_, to_, name, v, cascade⟩ _ (HGR.out.grow (HG3.out.allocd _)) HI.out (may_full3 HM.out)).mono ?_
  rintro e w4 ⟨rfl, hgr, hmd⟩
  have HGR4 := Lib.hid hgr; have HMD := Lib.hid ((Mod.of_grow (HG3.out.allocd _)).step hmd)
  clear hgr hmd c0 c1 c2 c3 c4 c5 c6 c7 c8 c9
  go_wp2
  go_ret2
  refine ⟨by rw [if_pos HM.out, HM.out]; rfl, ?_, HMD.out⟩
  unfold stepG
  rw [if_pos HM.out]
  exact HGR4.out.sub (fun b hb => hb.imp (fun x => x) (fun h => Nat.le_trans (HG3.out.allocd _).size h))

theorem may_has4 {c : PCat} {G : PGraph} {id from_ to_ : Int} {typ name : ByteArray} {v : PVal} {cascade : Bool} (h : mayG c ⟨4, id, typ, from_, to_, name, v, cascade⟩ G = 0) : hasE G id = true := by
  unfold mayG at h
  cases hf : hasE G id
  · simp [hf] at h
  · rfl
set_option maxRecDepth 100000 in
set_option maxHeartbeats 1000000 in
theorem do4 (S SC : Nat → Prop) (B : Nat) (G : PGraph) (nv ev rv iv : Value) (c : PCat) (o : POp) (w : World) (h : GraphOk 68 S w B G) (hG : GInv G) (hc : CatR SC w nv ev rv iv c) (hm : mayG c o G = 0) (hk : o.kind = 4) :
    Calls Tryz.prog 11 #[.pointer (some ⟨B, 0, none⟩), c.arg nv ev rv iv, o.args] w (DoPost S B G c o w) := by
  have HGR := Lib.hid h; have HI := Lib.hid hG; have HC := Lib.hid hc
  obtain ⟨kind, id, typ, from_, to_, name, v, cascade⟩ := o
  subst hk
  have HM := Lib.hid hm
  obtain ⟨na, nc, ea, ec, ra, rc, ia, ic, rfl, rfl, rfl, rfl⟩ := hc.slices
  have HW := Lib.hid (show ∀ o1 o2, Grow w ((w.alloc o1).alloc o2) from fun o1 o2 => ((Grow.rfl' w).allocd o1).allocd o2)
  have HBX := Lib.hid (boxes w (.slice na c.nodes.length nc) (.slice ea c.edges.length ec) (.slice ra c.rules.length rc) (.slice ia c.indexes.length ic) c ⟨4, id, typ, from_, to_, name, v, cascade⟩)
  clear h hc hG hm
  go_enter Tryz.func11, Tryz.ntmps11
  go_wp2_with fail
  refine (graphMay S SC B G _ _ _ _ c ⟨4, id, typ, from_, to_, name, v, cascade⟩ _ (HGR.out.grow (HW.out _ _)) HI.out (HC.out.grow (HW.out _ _))).mono ?_
  rintro e w2 ⟨rfl, hg⟩
  rw [HM.out]
  have HG2 := Lib.hid ((HW.out _ _).step hg)
  have HOP2 := Lib.hid (HBX.out.2.grow hg)
  obtain ⟨hl2, c0, -⟩ := HOP2.out.at
  clear hg
  go_wp2_with fail
  refine (acts4 _).mono ?_
  rintro e w3 ⟨rfl, hg⟩
  have HG3 := Lib.hid (HG2.out.step hg)
  clear hl2 c0
  obtain ⟨hl2, c0, c1, c2, c3, c4, c5, c6, c7, c8, c9⟩ := (HOP2.out.grow hg).at
  clear hg
  go_wp2_with fail
  refine (dropEdge S B G ⟨4, id, typ, from_, to_, name, v, cascade⟩ _ (HGR.out.grow (HG3.out.allocd _)) HI.out (may_has4 HM.out)).mono ?_
  rintro e w4 ⟨rfl, hgr, hmd⟩
  have HGR4 := Lib.hid hgr; have HMD := Lib.hid ((Mod.of_grow (HG3.out.allocd _)).step hmd)
  clear hgr hmd c0 c1 c2 c3 c4 c5 c6 c7 c8 c9
  go_wp2
  go_ret2
  refine ⟨by rw [if_pos HM.out, HM.out]; rfl, ?_, HMD.out⟩
  unfold stepG
  rw [if_pos HM.out]
  exact HGR4.out.sub (fun b hb => .inl hb)

theorem may_find5 {c : PCat} {G : PGraph} {id from_ to_ : Int} {typ name : ByteArray} {v : PVal} {cascade : Bool} (h : mayG c ⟨5, id, typ, from_, to_, name, v, cascade⟩ G = 0) : ∃ ps, findP G id = some ps := by
  unfold mayG at h
  cases hf : findP G id
  · simp [hf] at h
    split at h <;> simp at h
  · exact ⟨_, rfl⟩
set_option maxRecDepth 100000 in
set_option maxHeartbeats 1000000 in
theorem do5 (S SC : Nat → Prop) (B : Nat) (G : PGraph) (nv ev rv iv : Value) (c : PCat) (o : POp) (w : World) (h : GraphOk 68 S w B G) (hG : GInv G) (hc : CatR SC w nv ev rv iv c) (hm : mayG c o G = 0) (hk : o.kind = 5) :
    Calls Tryz.prog 11 #[.pointer (some ⟨B, 0, none⟩), c.arg nv ev rv iv, o.args] w (DoPost S B G c o w) := by
  have HGR := Lib.hid h; have HI := Lib.hid hG; have HC := Lib.hid hc
  obtain ⟨kind, id, typ, from_, to_, name, v, cascade⟩ := o
  subst hk
  have HM := Lib.hid hm
  obtain ⟨ps, hps⟩ := may_find5 hm
  have HPS := Lib.hid hps; clear hps
  obtain ⟨na, nc, ea, ec, ra, rc, ia, ic, rfl, rfl, rfl, rfl⟩ := hc.slices
  have HW := Lib.hid (show ∀ o1 o2, Grow w ((w.alloc o1).alloc o2) from fun o1 o2 => ((Grow.rfl' w).allocd o1).allocd o2)
  have HBX := Lib.hid (boxes w (.slice na c.nodes.length nc) (.slice ea c.edges.length ec) (.slice ra c.rules.length rc) (.slice ia c.indexes.length ic) c ⟨5, id, typ, from_, to_, name, v, cascade⟩)
  clear h hc hG hm
  go_enter Tryz.func11, Tryz.ntmps11
  go_wp2_with fail
  refine (graphMay S SC B G _ _ _ _ c ⟨5, id, typ, from_, to_, name, v, cascade⟩ _ (HGR.out.grow (HW.out _ _)) HI.out (HC.out.grow (HW.out _ _))).mono ?_
  rintro e w2 ⟨rfl, hg⟩
  rw [HM.out]
  have HG2 := Lib.hid ((HW.out _ _).step hg)
  have HOP2 := Lib.hid (HBX.out.2.grow hg)
  obtain ⟨hl2, c0, -⟩ := HOP2.out.at
  clear hg
  go_wp2_with fail
  refine (acts5 _).mono ?_
  rintro e w3 ⟨rfl, hg⟩
  have HG3 := Lib.hid (HG2.out.step hg)
  clear hl2 c0
  obtain ⟨hl2, c0, c1, c2, c3, c4, c5, c6, c7, c8, c9⟩ := (HOP2.out.grow hg).at
  clear hg
  go_wp2_with fail
  refine (setProp S B G ⟨5, id, typ, from_, to_, name, v, cascade⟩ ps _ (HGR.out.grow (HG3.out.allocd _)) HI.out HPS.out).mono ?_
  rintro e w4 ⟨rfl, hgr, hmd⟩
  have HGR4 := Lib.hid hgr; have HMD := Lib.hid ((Mod.of_grow (HG3.out.allocd _)).step hmd)
  clear hgr hmd c0 c1 c2 c3 c4 c5 c6 c7 c8 c9
  go_wp2
  go_ret2
  refine ⟨by rw [if_pos HM.out, HM.out]; rfl, ?_, HMD.out⟩
  unfold stepG
  rw [if_pos HM.out]
  exact HGR4.out.sub (fun b hb => hb.imp (fun x => x) (fun h => Nat.le_trans (HG3.out.allocd _).size h))

theorem may_kind {c : PCat} {o : POp} {G : PGraph} (h : mayG c o G = 0) : o.kind = 1 ∨ o.kind = 2 ∨ o.kind = 3 ∨ o.kind = 4 ∨ o.kind = 5 := by
  by_cases h1 : o.kind = 1
  · exact .inl h1
  by_cases h2 : o.kind = 2
  · exact .inr (.inl h2)
  by_cases h3 : o.kind = 3
  · exact .inr (.inr (.inl h3))
  by_cases h4 : o.kind = 4
  · exact .inr (.inr (.inr (.inl h4)))
  by_cases h5 : o.kind = 5
  · exact .inr (.inr (.inr (.inr h5)))
  unfold mayG at h
  rw [if_neg h1, if_neg h2, if_neg h3, if_neg h4, if_neg h5] at h
  simp at h
theorem graphDo (S SC : Nat → Prop) (B : Nat) (G : PGraph) (nv ev rv iv : Value) (c : PCat) (o : POp) (w : World) (h : GraphOk 68 S w B G) (hG : GInv G) (hc : CatR SC w nv ev rv iv c) :
    Calls Tryz.prog 11 #[.pointer (some ⟨B, 0, none⟩), c.arg nv ev rv iv, o.args] w (DoPost S B G c o w) := by
  by_cases hm : mayG c o G = 0
  · rcases may_kind hm with hk | hk | hk | hk | hk
    · exact do1 S SC B G nv ev rv iv c o w h hG hc hm hk
    · exact do2 S SC B G nv ev rv iv c o w h hG hc hm hk
    · exact do3 S SC B G nv ev rv iv c o w h hG hc hm hk
    · exact do4 S SC B G nv ev rv iv c o w h hG hc hm hk
    · exact do5 S SC B G nv ev rv iv c o w h hG hc hm hk
  · exact doNo S SC B G nv ev rv iv c o w h hG hc hm
end Go.Hg
