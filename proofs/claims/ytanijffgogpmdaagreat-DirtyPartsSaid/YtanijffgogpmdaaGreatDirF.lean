/- graph.May, Do; hedgerowkeep.LargeValue, LargeOp; hedgerowlaw17.Fair, Types, wakes; val.Get, hedgerowref02.Get: a property's value; The closures of rule.Keeps but unique and most: of, exists, ends; slices.ContainsFunc at nodes and edges, with any captured variables; Maps with keys of int64, whatever the elements: a function's view; Maps with any keys that can be told apart: a function's view; look, update, entry and its store, delete, clear; The keys of a map with keys of int64, as the kit's laws of maps.Keys and slices.Sorted want them; What breaks a rule: the plain words; without it the rule is kept; The closure of rule.Keeps for most: counts in a map, and a range over it; Maps with any keys at a drawn region: look, entry, store; Keys that are structs of three plain cells: told apart by their cells; check.first, Whole. Conditions: those that each theorem names. -/
import Derived.WalkKit
import Derived.WalkSpells
import Derived.WalkLawsBesides
import Derived.Lib.Hide
import Derived.BigQuiet
import Derived.Deep.LoopGhost
import Derived.Test.YtanijffgogpmdaaGreatRows
import Derived.Lib.SliceRun
import Derived.WideMake
import Derived.Deep.RegionLaw
import Derived.Lib.Overlaps
import Derived.Deep.RegionHeld3
import Derived.Laws.ResultCell
import Derived.Laws.EntriesVeiled
import Derived.Maps.OwnOps
import Derived.Maps.OwnSet
import Derived.Carry
import Derived.Lib.SlKeysI
import Derived.Maps.RangeWalk
import Derived.Lib.SlMapFilter
import Derived.Test.YtanijffgogpmdaaGreatDirE
namespace Go.Hg
open Go.RowKit Go.Proofs

def CatAt (w : World) (b : Nat) (nv ev rv iv : Value) (c : PCat) : Prop := w.heap[b]? = some (.cells #[nv, ev, rv, iv, .int .i64 c.nextRule] 52 (0, 0))
theorem CatAt.grow {w w' : World} {b : Nat} {nv ev rv iv : Value} {c : PCat} (h : CatAt w b nv ev rv iv c) (g : Grow w w') : CatAt w' b nv ev rv iv c := (g.heapEq (blk_lt h)).trans h
theorem CatAt.at {w : World} {b : Nat} {nv ev rv iv : Value} {c : PCat} (h : CatAt w b nv ev rv iv c) : b < w.heap.size ∧ w.cell? ⟨b, 0, none⟩ = some nv ∧ w.cell? ⟨b, 1, none⟩ = some ev ∧ w.cell? ⟨b, 2, none⟩ = some rv ∧ w.cell? ⟨b, 3, none⟩ = some iv ∧ w.cell? ⟨b, 4, none⟩ = some (.int .i64 c.nextRule) :=
  ⟨blk_lt h, by rw [blk_cell h]; rfl, by rw [blk_cell h]; rfl, by rw [blk_cell h]; rfl, by rw [blk_cell h]; rfl, by rw [blk_cell h]; rfl⟩
theorem boxes (w : World) (nv ev rv iv : Value) (c : PCat) (o : POp) : CatAt ((w.alloc (.cells #[nv, ev, rv, iv, .int .i64 c.nextRule] 52)).alloc (.cells o.cells.toArray 44)) w.heap.size nv ev rv iv c ∧ OpAt ((w.alloc (.cells #[nv, ev, rv, iv, .int .i64 c.nextRule] 52)).alloc (.cells o.cells.toArray 44)) (w.heap.size + 1) o := by
  constructor
  · unfold CatAt
    rw [heap_alloc_old _ _ (by simp)]
    exact heap_alloc_new w _
  · have := heap_alloc_new (w.alloc (.cells #[nv, ev, rv, iv, .int .i64 c.nextRule] 52)) (.cells o.cells.toArray 44)
    rw [World.size_alloc] at this
    exact this

set_option maxRecDepth 100000 in
set_option maxHeartbeats 1000000 in
theorem may1 (S SC : Nat → Prop) (B : Nat) (G : PGraph) (nv ev rv iv : Value) (c : PCat) (o : POp) (w : World) (h : GraphOk 120 S w B G) (hG : GInv G) (hc : CatR SC w nv ev rv iv c) (hk : o.kind = 1) :
    Calls Tryz.prog 74 #[.pointer (some ⟨B, 0, none⟩), c.arg nv ev rv iv, o.args] w fun e w' => e = .returned (.int .i64 (mayG c o G)) ∧ Grow w w' := by
  have HGR := Lib.hid h; have HI := Lib.hid hG; have HC := Lib.hid hc
  obtain ⟨kind, id, typ, from_, to_, name, v, cascade⟩ := o
  subst hk
  obtain ⟨na, nc, ea, ec, ra, rc, ia, ic, rfl, rfl, rfl, rfl⟩ := hc.slices
  have HW := Lib.hid (show ∀ o1 o2, Grow w ((w.alloc o1).alloc o2) from fun o1 o2 => ((Grow.rfl' w).allocd o1).allocd o2)
  have HBX := Lib.hid (boxes w (.slice na c.nodes.length nc) (.slice ea c.edges.length ec) (.slice ra c.rules.length rc) (.slice ia c.indexes.length ic) c ⟨1, id, typ, from_, to_, name, v, cascade⟩)
  clear h hc hG
  go_enter Tryz.func74, Tryz.ntmps74
  go_wp2_with fail
  refine (acts1 _).mono ?_
  rintro e w2 ⟨rfl, hg⟩
  have HG2 := Lib.hid ((HW.out _ _).step hg)
  obtain ⟨hl1, k0, k1, k2, k3, k4⟩ := (HBX.out.1.grow hg).at
  obtain ⟨hl2, c0, c1, c2, c3, c4, c5, c6, c7, c8, c9⟩ := (HBX.out.2.grow hg).at
  clear hg
  go_wp2_with fail
  refine (mayAddNode S SC B G _ _ _ _ c ⟨1, id, typ, from_, to_, name, v, cascade⟩ _ (HGR.out.grow (HG2.out.allocd _)) HI.out (HC.out.grow (HG2.out.allocd _)) rfl).mono ?_
  rintro e w3 ⟨rfl, hg⟩
  have HG3 := Lib.hid ((HG2.out.allocd _).step hg)
  clear hg k0 k1 k2 k3 k4 c0 c1 c2 c3 c4 c5 c6 c7 c8 c9
  go_wp2
  go_ret
  exact ⟨rfl, HG3.out⟩

set_option maxRecDepth 100000 in
set_option maxHeartbeats 1000000 in
theorem may2 (S SC : Nat → Prop) (B : Nat) (G : PGraph) (nv ev rv iv : Value) (c : PCat) (o : POp) (w : World) (h : GraphOk 120 S w B G) (hG : GInv G) (hc : CatR SC w nv ev rv iv c) (hk : o.kind = 2) :
    Calls Tryz.prog 74 #[.pointer (some ⟨B, 0, none⟩), c.arg nv ev rv iv, o.args] w fun e w' => e = .returned (.int .i64 (mayG c o G)) ∧ Grow w w' := by
  have HGR := Lib.hid h; have HI := Lib.hid hG; have HC := Lib.hid hc
  obtain ⟨kind, id, typ, from_, to_, name, v, cascade⟩ := o
  subst hk
  obtain ⟨na, nc, ea, ec, ra, rc, ia, ic, rfl, rfl, rfl, rfl⟩ := hc.slices
  have HW := Lib.hid (show ∀ o1 o2, Grow w ((w.alloc o1).alloc o2) from fun o1 o2 => ((Grow.rfl' w).allocd o1).allocd o2)
  have HBX := Lib.hid (boxes w (.slice na c.nodes.length nc) (.slice ea c.edges.length ec) (.slice ra c.rules.length rc) (.slice ia c.indexes.length ic) c ⟨2, id, typ, from_, to_, name, v, cascade⟩)
  clear h hc hG
  go_enter Tryz.func74, Tryz.ntmps74
  go_wp2_with fail
  refine (acts2 _).mono ?_
  rintro e w2 ⟨rfl, hg⟩
  have HG2 := Lib.hid ((HW.out _ _).step hg)
  obtain ⟨hl1, k0, k1, k2, k3, k4⟩ := (HBX.out.1.grow hg).at
  obtain ⟨hl2, c0, c1, c2, c3, c4, c5, c6, c7, c8, c9⟩ := (HBX.out.2.grow hg).at
  clear hg
  go_wp2_with fail
  refine (mayDropNode S SC B G _ _ _ _ c ⟨2, id, typ, from_, to_, name, v, cascade⟩ _ (HGR.out.grow (HG2.out.allocd _)) HI.out (HC.out.grow (HG2.out.allocd _)) rfl).mono ?_
  rintro e w3 ⟨rfl, hg⟩
  have HG3 := Lib.hid ((HG2.out.allocd _).step hg)
  clear hg k0 k1 k2 k3 k4 c0 c1 c2 c3 c4 c5 c6 c7 c8 c9
  go_wp2
  go_ret
  exact ⟨rfl, HG3.out⟩

set_option maxRecDepth 100000 in
set_option maxHeartbeats 1000000 in
theorem may3 (S SC : Nat → Prop) (B : Nat) (G : PGraph) (nv ev rv iv : Value) (c : PCat) (o : POp) (w : World) (h : GraphOk 120 S w B G) (hG : GInv G) (hc : CatR SC w nv ev rv iv c) (hk : o.kind = 3) :
    Calls Tryz.prog 74 #[.pointer (some ⟨B, 0, none⟩), c.arg nv ev rv iv, o.args] w fun e w' => e = .returned (.int .i64 (mayG c o G)) ∧ Grow w w' := by
  have HGR := Lib.hid h; have HI := Lib.hid hG; have HC := Lib.hid hc
  obtain ⟨kind, id, typ, from_, to_, name, v, cascade⟩ := o
  subst hk
  obtain ⟨na, nc, ea, ec, ra, rc, ia, ic, rfl, rfl, rfl, rfl⟩ := hc.slices
  have HW := Lib.hid (show ∀ o1 o2, Grow w ((w.alloc o1).alloc o2) from fun o1 o2 => ((Grow.rfl' w).allocd o1).allocd o2)
  have HBX := Lib.hid (boxes w (.slice na c.nodes.length nc) (.slice ea c.edges.length ec) (.slice ra c.rules.length rc) (.slice ia c.indexes.length ic) c ⟨3, id, typ, from_, to_, name, v, cascade⟩)
  clear h hc hG
  go_enter Tryz.func74, Tryz.ntmps74
  go_wp2_with fail
  refine (acts3 _).mono ?_
  rintro e w2 ⟨rfl, hg⟩
  have HG2 := Lib.hid ((HW.out _ _).step hg)
  obtain ⟨hl1, k0, k1, k2, k3, k4⟩ := (HBX.out.1.grow hg).at
  obtain ⟨hl2, c0, c1, c2, c3, c4, c5, c6, c7, c8, c9⟩ := (HBX.out.2.grow hg).at
  clear hg
  go_wp2_with fail
  refine (mayAddEdge S SC B G _ _ _ _ c ⟨3, id, typ, from_, to_, name, v, cascade⟩ _ (HGR.out.grow (HG2.out.allocd _)) HI.out (HC.out.grow (HG2.out.allocd _)) rfl).mono ?_
  rintro e w3 ⟨rfl, hg⟩
  have HG3 := Lib.hid ((HG2.out.allocd _).step hg)
  clear hg k0 k1 k2 k3 k4 c0 c1 c2 c3 c4 c5 c6 c7 c8 c9
  go_wp2
  go_ret
  exact ⟨rfl, HG3.out⟩

set_option maxRecDepth 100000 in
set_option maxHeartbeats 1000000 in
theorem may4 (S SC : Nat → Prop) (B : Nat) (G : PGraph) (nv ev rv iv : Value) (c : PCat) (o : POp) (w : World) (h : GraphOk 120 S w B G) (hG : GInv G) (hc : CatR SC w nv ev rv iv c) (hk : o.kind = 4) :
    Calls Tryz.prog 74 #[.pointer (some ⟨B, 0, none⟩), c.arg nv ev rv iv, o.args] w fun e w' => e = .returned (.int .i64 (mayG c o G)) ∧ Grow w w' := by
  have HGR := Lib.hid h; have HI := Lib.hid hG; have HC := Lib.hid hc
  obtain ⟨kind, id, typ, from_, to_, name, v, cascade⟩ := o
  subst hk
  obtain ⟨na, nc, ea, ec, ra, rc, ia, ic, rfl, rfl, rfl, rfl⟩ := hc.slices
  have HW := Lib.hid (show ∀ o1 o2, Grow w ((w.alloc o1).alloc o2) from fun o1 o2 => ((Grow.rfl' w).allocd o1).allocd o2)
  have HBX := Lib.hid (boxes w (.slice na c.nodes.length nc) (.slice ea c.edges.length ec) (.slice ra c.rules.length rc) (.slice ia c.indexes.length ic) c ⟨4, id, typ, from_, to_, name, v, cascade⟩)
  clear h hc hG
  go_enter Tryz.func74, Tryz.ntmps74
  go_wp2_with fail
  refine (acts4 _).mono ?_
  rintro e w2 ⟨rfl, hg⟩
  have HG2 := Lib.hid ((HW.out _ _).step hg)
  obtain ⟨hl1, k0, k1, k2, k3, k4⟩ := (HBX.out.1.grow hg).at
  obtain ⟨hl2, c0, c1, c2, c3, c4, c5, c6, c7, c8, c9⟩ := (HBX.out.2.grow hg).at
  clear hg
  go_wp2_with fail
  refine (mayDropEdge S SC B G _ _ _ _ c ⟨4, id, typ, from_, to_, name, v, cascade⟩ _ (HGR.out.grow (HG2.out.allocd _)) HI.out (HC.out.grow (HG2.out.allocd _)) rfl).mono ?_
  rintro e w3 ⟨rfl, hg⟩
  have HG3 := Lib.hid ((HG2.out.allocd _).step hg)
  clear hg k0 k1 k2 k3 k4 c0 c1 c2 c3 c4 c5 c6 c7 c8 c9
  go_wp2
  go_ret
  exact ⟨rfl, HG3.out⟩

set_option maxRecDepth 100000 in
set_option maxHeartbeats 1000000 in
theorem may5 (S SC : Nat → Prop) (B : Nat) (G : PGraph) (nv ev rv iv : Value) (c : PCat) (o : POp) (w : World) (h : GraphOk 120 S w B G) (hG : GInv G) (hc : CatR SC w nv ev rv iv c) (hk : o.kind = 5) :
    Calls Tryz.prog 74 #[.pointer (some ⟨B, 0, none⟩), c.arg nv ev rv iv, o.args] w fun e w' => e = .returned (.int .i64 (mayG c o G)) ∧ Grow w w' := by
  have HGR := Lib.hid h; have HI := Lib.hid hG; have HC := Lib.hid hc
  obtain ⟨kind, id, typ, from_, to_, name, v, cascade⟩ := o
  subst hk
  obtain ⟨na, nc, ea, ec, ra, rc, ia, ic, rfl, rfl, rfl, rfl⟩ := hc.slices
  have HW := Lib.hid (show ∀ o1 o2, Grow w ((w.alloc o1).alloc o2) from fun o1 o2 => ((Grow.rfl' w).allocd o1).allocd o2)
  have HBX := Lib.hid (boxes w (.slice na c.nodes.length nc) (.slice ea c.edges.length ec) (.slice ra c.rules.length rc) (.slice ia c.indexes.length ic) c ⟨5, id, typ, from_, to_, name, v, cascade⟩)
  clear h hc hG
  go_enter Tryz.func74, Tryz.ntmps74
  go_wp2_with fail
  refine (acts5 _).mono ?_
  rintro e w2 ⟨rfl, hg⟩
  have HG2 := Lib.hid ((HW.out _ _).step hg)
  obtain ⟨hl1, k0, k1, k2, k3, k4⟩ := (HBX.out.1.grow hg).at
  obtain ⟨hl2, c0, c1, c2, c3, c4, c5, c6, c7, c8, c9⟩ := (HBX.out.2.grow hg).at
  clear hg
  go_wp2_with fail
  refine (maySetProp S SC B G _ _ _ _ c ⟨5, id, typ, from_, to_, name, v, cascade⟩ _ (HGR.out.grow (HG2.out.allocd _)) HI.out (HC.out.grow (HG2.out.allocd _)) rfl).mono ?_
  rintro e w3 ⟨rfl, hg⟩
  have HG3 := Lib.hid ((HG2.out.allocd _).step hg)
  clear hg k0 k1 k2 k3 k4 c0 c1 c2 c3 c4 c5 c6 c7 c8 c9
  go_wp2
  go_ret
  exact ⟨rfl, HG3.out⟩

set_option maxRecDepth 100000 in
set_option maxHeartbeats 1000000 in
theorem may0 (SC : Nat → Prop) (B : Nat) (G : PGraph) (nv ev rv iv : Value) (c : PCat) (o : POp) (w : World) (hc : CatR SC w nv ev rv iv c) (h1 : o.kind ≠ 1) (h2 : o.kind ≠ 2) (h3 : o.kind ≠ 3) (h4 : o.kind ≠ 4) (h5 : o.kind ≠ 5) :
    Calls Tryz.prog 74 #[.pointer (some ⟨B, 0, none⟩), c.arg nv ev rv iv, o.args] w fun e w' => e = .returned (.int .i64 (mayG c o G)) ∧ Grow w w' := by
  have HM := Lib.hid (show mayG c o G = 150 by unfold mayG; rw [if_neg h1, if_neg h2, if_neg h3, if_neg h4, if_neg h5])
  have HA := Lib.hid (fun w => acts0 o.kind w h1 h2 h3 h4 h5)
  obtain ⟨na, nc, ea, ec, ra, rc, ia, ic, rfl, rfl, rfl, rfl⟩ := hc.slices
  have HW := Lib.hid (show ∀ o1 o2, Grow w ((w.alloc o1).alloc o2) from fun o1 o2 => ((Grow.rfl' w).allocd o1).allocd o2)
  clear hc h1 h2 h3 h4 h5
  go_enter Tryz.func74, Tryz.ntmps74
  go_wp2_with fail
  refine (HA.out _).mono ?_
  rintro e w2 ⟨rfl, hg⟩
  have HG2 := Lib.hid ((HW.out _ _).step hg)
  clear hg
  go_wp2
  go_ret
  exact ⟨by rw [HM.out]; rfl, HG2.out.allocd _⟩

theorem graphMay (S SC : Nat → Prop) (B : Nat) (G : PGraph) (nv ev rv iv : Value) (c : PCat) (o : POp) (w : World) (h : GraphOk 120 S w B G) (hG : GInv G) (hc : CatR SC w nv ev rv iv c) :
    Calls Tryz.prog 74 #[.pointer (some ⟨B, 0, none⟩), c.arg nv ev rv iv, o.args] w fun e w' => e = .returned (.int .i64 (mayG c o G)) ∧ Grow w w' := by
  by_cases h1 : o.kind = 1
  · exact may1 S SC B G nv ev rv iv c o w h hG hc h1
  by_cases h2 : o.kind = 2
  · exact may2 S SC B G nv ev rv iv c o w h hG hc h2
  by_cases h3 : o.kind = 3
  · exact may3 S SC B G nv ev rv iv c o w h hG hc h3
  by_cases h4 : o.kind = 4
  · exact may4 S SC B G nv ev rv iv c o w h hG hc h4
  by_cases h5 : o.kind = 5
  · exact may5 S SC B G nv ev rv iv c o w h hG hc h5
  exact may0 SC B G nv ev rv iv c o w hc h1 h2 h3 h4 h5

def DoPost (S : Nat → Prop) (B : Nat) (G : PGraph) (c : PCat) (o : POp) (w : World) (e : Ending) (w' : World) : Prop :=
  e = .returned (.tuple #[.int .i64 (if mayG c o G = 0 then idG o G else 0), .int .i64 (mayG c o G)]) ∧ GraphOk 120 (fun b => S b ∨ w.heap.size ≤ b) w' B (stepG c o G) ∧ Mod S w w'

set_option maxRecDepth 100000 in
set_option maxHeartbeats 1000000 in
theorem doNo (S SC : Nat → Prop) (B : Nat) (G : PGraph) (nv ev rv iv : Value) (c : PCat) (o : POp) (w : World) (h : GraphOk 120 S w B G) (hG : GInv G) (hc : CatR SC w nv ev rv iv c) (hm : ¬ mayG c o G = 0) :
    Calls Tryz.prog 22 #[.pointer (some ⟨B, 0, none⟩), c.arg nv ev rv iv, o.args] w (DoPost S B G c o w) := by
  have HGR := Lib.hid h; have HI := Lib.hid hG; have HC := Lib.hid hc; have HM := Lib.hid hm
  obtain ⟨na, nc, ea, ec, ra, rc, ia, ic, rfl, rfl, rfl, rfl⟩ := hc.slices
  have HW := Lib.hid (show ∀ o1 o2, Grow w ((w.alloc o1).alloc o2) from fun o1 o2 => ((Grow.rfl' w).allocd o1).allocd o2)
  have hmb : (mayG c o G == 0) = false := by simpa using hm
  clear h hc hG
  go_enter Tryz.func22, Tryz.ntmps22
  go_wp2_with fail
  refine (graphMay S SC B G _ _ _ _ c o _ (HGR.out.grow (HW.out _ _)) HI.out (HC.out.grow (HW.out _ _))).mono ?_
  rintro e w2 ⟨rfl, hg⟩
  have HG2 := Lib.hid ((HW.out _ _).step hg)
  clear hg
  go_wp2
  go_ret2
  refine ⟨by rw [if_neg HM.out]; rfl, ?_, Mod.of_grow HG2.out⟩
  unfold stepG
  rw [if_neg HM.out]
  exact (HGR.out.grow HG2.out).sub (fun b hb => .inl hb)

theorem may_full1 {c : PCat} {G : PGraph} {id from_ to_ : Int} {typ name : ByteArray} {v : PVal} {cascade : Bool} (h : mayG c ⟨1, id, typ, from_, to_, name, v, cascade⟩ G = 0) : fullG G = false := by
  unfold mayG at h
  cases hf : fullG G
  · rfl
  · simp only [hf] at h
    simp at h
    split at h <;> simp at h
set_option maxRecDepth 100000 in
set_option maxHeartbeats 1000000 in
theorem do1 (S SC : Nat → Prop) (B : Nat) (G : PGraph) (nv ev rv iv : Value) (c : PCat) (o : POp) (w : World) (h : GraphOk 120 S w B G) (hG : GInv G) (hc : CatR SC w nv ev rv iv c) (hm : mayG c o G = 0) (hk : o.kind = 1) :
    Calls Tryz.prog 22 #[.pointer (some ⟨B, 0, none⟩), c.arg nv ev rv iv, o.args] w (DoPost S B G c o w) := by
  have HGR := Lib.hid h; have HI := Lib.hid hG; have HC := Lib.hid hc
  obtain ⟨kind, id, typ, from_, to_, name, v, cascade⟩ := o
  subst hk
  have HM := Lib.hid hm
  obtain ⟨na, nc, ea, ec, ra, rc, ia, ic, rfl, rfl, rfl, rfl⟩ := hc.slices
  have HW := Lib.hid (show ∀ o1 o2, Grow w ((w.alloc o1).alloc o2) from fun o1 o2 => ((Grow.rfl' w).allocd o1).allocd o2)
  have HBX := Lib.hid (boxes w (.slice na c.nodes.length nc) (.slice ea c.edges.length ec) (.slice ra c.rules.length rc) (.slice ia c.indexes.length ic) c ⟨1, id, typ, from_, to_, name, v, cascade⟩)
  clear h hc hG hm
  go_enter Tryz.func22, Tryz.ntmps22
  go_wp2_with fail
  refine (graphMay S SC B G _ _ _ _ c ⟨1, id, typ, from_, to_, name, v, cascade⟩ _ (HGR.out.grow (HW.out _ _)) HI.out (HC.out.grow (HW.out _ _))).mono ?_
  rintro e w2 ⟨rfl, hg⟩
  rw [HM.out]
  have HG2 := Lib.hid ((HW.out _ _).step hg)
  have HOP2 := Lib.hid (HBX.out.2.grow hg)
  obtain ⟨hl2, c0, -⟩ := HOP2.out.at
  clear hg
  go_wp2_with fail
  refine (acts1 _).mono ?_
  rintro e w3 ⟨rfl, hg⟩
  have HG3 := Lib.hid (HG2.out.step hg)
  clear hl2 c0
  obtain ⟨hl2, c0, c1, c2, c3, c4, c5, c6, c7, c8, c9⟩ := (HOP2.out.grow hg).at
  clear hg
  go_wp2_with fail
  refine (addNode S B G ⟨1, id, typ, from_, to_, name, v, cascade⟩ _ (HGR.out.grow (HG3.out.allocd _)) HI.out (may_full1 HM.out)).mono ?_
  rintro e w4 ⟨rfl, hgr, hmd⟩
  have HGR4 := Lib.hid hgr; have HMD := Lib.hid ((Mod.of_grow (HG3.out.allocd _)).step hmd)
  clear hgr hmd c0 c1 c2 c3 c4 c5 c6 c7 c8 c9
  go_wp2
  go_ret2
  refine ⟨by rw [if_pos HM.out, HM.out]; rfl, ?_, HMD.out⟩
  unfold stepG
  rw [if_pos HM.out]
  exact HGR4.out.sub (fun b hb => hb.imp (fun x => x) (fun h => Nat.le_trans (HG3.out.allocd _).size h))

theorem may_has2 {c : PCat} {G : PGraph} {id from_ to_ : Int} {typ name : ByteArray} {v : PVal} {cascade : Bool} (h : mayG c ⟨2, id, typ, from_, to_, name, v, cascade⟩ G = 0) : hasN G id = true := by
  unfold mayG at h
  cases hf : hasN G id
  · simp [hf] at h
  · rfl
set_option maxRecDepth 100000 in
set_option maxHeartbeats 1000000 in
theorem do2 (S SC : Nat → Prop) (B : Nat) (G : PGraph) (nv ev rv iv : Value) (c : PCat) (o : POp) (w : World) (h : GraphOk 120 S w B G) (hG : GInv G) (hc : CatR SC w nv ev rv iv c) (hm : mayG c o G = 0) (hk : o.kind = 2) :
    Calls Tryz.prog 22 #[.pointer (some ⟨B, 0, none⟩), c.arg nv ev rv iv, o.args] w (DoPost S B G c o w) := by
  have HGR := Lib.hid h; have HI := Lib.hid hG; have HC := Lib.hid hc
  obtain ⟨kind, id, typ, from_, to_, name, v, cascade⟩ := o
  subst hk
  have HM := Lib.hid hm
  obtain ⟨na, nc, ea, ec, ra, rc, ia, ic, rfl, rfl, rfl, rfl⟩ := hc.slices
  have HW := Lib.hid (show ∀ o1 o2, Grow w ((w.alloc o1).alloc o2) from fun o1 o2 => ((Grow.rfl' w).allocd o1).allocd o2)
  have HBX := Lib.hid (boxes w (.slice na c.nodes.length nc) (.slice ea c.edges.length ec) (.slice ra c.rules.length rc) (.slice ia c.indexes.length ic) c ⟨2, id, typ, from_, to_, name, v, cascade⟩)
  clear h hc hG hm
  go_enter Tryz.func22, Tryz.ntmps22
  go_wp2_with fail
  refine (graphMay S SC B G _ _ _ _ c ⟨2, id, typ, from_, to_, name, v, cascade⟩ _ (HGR.out.grow (HW.out _ _)) HI.out (HC.out.grow (HW.out _ _))).mono ?_
  rintro e w2 ⟨rfl, hg⟩
  rw [HM.out]
  have HG2 := Lib.hid ((HW.out _ _).step hg)
  have HOP2 := Lib.hid (HBX.out.2.grow hg)
  obtain ⟨hl2, c0, -⟩ := HOP2.out.at
  clear hg
  go_wp2_with fail
  refine (acts2 _).mono ?_
  rintro e w3 ⟨rfl, hg⟩
  have HG3 := Lib.hid (HG2.out.step hg)
  clear hl2 c0
  obtain ⟨hl2, c0, c1, c2, c3, c4, c5, c6, c7, c8, c9⟩ := (HOP2.out.grow hg).at
  clear hg
  go_wp2_with fail
  refine (dropNode S B G ⟨2, id, typ, from_, to_, name, v, cascade⟩ _ (HGR.out.grow (HG3.out.allocd _)) HI.out (may_has2 HM.out)).mono ?_
  rintro e w4 ⟨rfl, hgr, hmd⟩
  have HGR4 := Lib.hid hgr; have HMD := Lib.hid ((Mod.of_grow (HG3.out.allocd _)).step hmd)
  clear hgr hmd c0 c1 c2 c3 c4 c5 c6 c7 c8 c9
  go_wp2
  go_ret2
  refine ⟨by rw [if_pos HM.out, HM.out]; rfl, ?_, HMD.out⟩
  unfold stepG
  rw [if_pos HM.out]
  exact HGR4.out.sub (fun b hb => .inl hb)

theorem may_full3 {c : PCat} {G : PGraph} {id from_ to_ : Int} {typ name : ByteArray} {v : PVal} {cascade : Bool} (h : mayG c ⟨3, id, typ, from_, to_, name, v, cascade⟩ G = 0) : fullG G = false := by
  unfold mayG at h
  cases hf : fullG G
  · rfl
  · simp only [hf] at h
    simp at h
    repeat (first | (split at h) | (simp at h))
set_option maxRecDepth 100000 in
set_option maxHeartbeats 1000000 in
theorem do3 (S SC : Nat → Prop) (B : Nat) (G : PGraph) (nv ev rv iv : Value) (c : PCat) (o : POp) (w : World) (h : GraphOk 120 S w B G) (hG : GInv G) (hc : CatR SC w nv ev rv iv c) (hm : mayG c o G = 0) (hk : o.kind = 3) :
    Calls Tryz.prog 22 #[.pointer (some ⟨B, 0, none⟩), c.arg nv ev rv iv, o.args] w (DoPost S B G c o w) := by
  have HGR := Lib.hid h; have HI := Lib.hid hG; have HC := Lib.hid hc
  obtain ⟨kind, id, typ, from_, to_, name, v, cascade⟩ := o
  subst hk
  have HM := Lib.hid hm
  obtain ⟨na, nc, ea, ec, ra, rc, ia, ic, rfl, rfl, rfl, rfl⟩ := hc.slices
  have HW := Lib.hid (show ∀ o1 o2, Grow w ((w.alloc o1).alloc o2) from fun o1 o2 => ((Grow.rfl' w).allocd o1).allocd o2)
  have HBX := Lib.hid (boxes w (.slice na c.nodes.length nc) (.slice ea c.edges.length ec) (.slice ra c.rules.length rc) (.slice ia c.indexes.length ic) c ⟨3, id, typ, from_, to_, name, v, cascade⟩)
  clear h hc hG hm
  go_enter Tryz.func22, Tryz.ntmps22
  go_wp2_with fail
  refine (graphMay S SC B G _ _ _ _ c ⟨3, id, typ, from_, to_, name, v, cascade⟩ _ (HGR.out.grow (HW.out _ _)) HI.out (HC.out.grow (HW.out _ _))).mono ?_
  rintro e w2 ⟨rfl, hg⟩
  rw [HM.out]
  have HG2 := Lib.hid ((HW.out _ _).step hg)
  have HOP2 := Lib.hid (HBX.out.2.grow hg)
  obtain ⟨hl2, c0, -⟩ := HOP2.out.at
  clear hg
  go_wp2_with fail
  refine (acts3 _).mono ?_
  rintro e w3 ⟨rfl, hg⟩
  have HG3 := Lib.hid (HG2.out.step hg)
  clear hl2 c0
  obtain ⟨hl2, c0, c1, c2, c3, c4, c5, c6, c7, c8, c9⟩ := (HOP2.out.grow hg).at
  clear hg
  go_wp2_with fail
  refine (addEdge S B G ⟨3, id, typ, from_, to_, name, v, cascade⟩ _ (HGR.out.grow (HG3.out.allocd _)) HI.out (may_full3 HM.out)).mono ?_
  rintro e w4 ⟨rfl, hgr, hmd⟩
  have HGR4 := Lib.hid hgr; have HMD := Lib.hid ((Mod.of_grow (HG3.out.allocd _)).step hmd)
  clear hgr hmd c0 c1 c2 c3 c4 c5 c6 c7 c8 c9
  go_wp2
  go_ret2
  refine ⟨by rw [if_pos HM.out, HM.out]; rfl, ?_, HMD.out⟩
  unfold stepG
  rw [if_pos HM.out]
  exact HGR4.out.sub (fun b hb => hb.imp (fun x => x) (fun h => Nat.le_trans (HG3.out.allocd _).size h))

theorem may_has4 {c : PCat} {G : PGraph} {id from_ to_ : Int} {typ name : ByteArray} {v : PVal} {cascade : Bool} (h : mayG c ⟨4, id, typ, from_, to_, name, v, cascade⟩ G = 0) : hasE G id = true := by
  unfold mayG at h
  cases hf : hasE G id
  · simp [hf] at h
  · rfl
set_option maxRecDepth 100000 in
set_option maxHeartbeats 1000000 in
theorem do4 (S SC : Nat → Prop) (B : Nat) (G : PGraph) (nv ev rv iv : Value) (c : PCat) (o : POp) (w : World) (h : GraphOk 120 S w B G) (hG : GInv G) (hc : CatR SC w nv ev rv iv c) (hm : mayG c o G = 0) (hk : o.kind = 4) :
    Calls Tryz.prog 22 #[.pointer (some ⟨B, 0, none⟩), c.arg nv ev rv iv, o.args] w (DoPost S B G c o w) := by
  have HGR := Lib.hid h; have HI := Lib.hid hG; have HC := Lib.hid hc
  obtain ⟨kind, id, typ, from_, to_, name, v, cascade⟩ := o
  subst hk
  have HM := Lib.hid hm
  obtain ⟨na, nc, ea, ec, ra, rc, ia, ic, rfl, rfl, rfl, rfl⟩ := hc.slices
  have HW := Lib.hid (show ∀ o1 o2, Grow w ((w.alloc o1).alloc o2) from fun o1 o2 => ((Grow.rfl' w).allocd o1).allocd o2)
  have HBX := Lib.hid (boxes w (.slice na c.nodes.length nc) (.slice ea c.edges.length ec) (.slice ra c.rules.length rc) (.slice ia c.indexes.length ic) c ⟨4, id, typ, from_, to_, name, v, cascade⟩)
  clear h hc hG hm
  go_enter Tryz.func22, Tryz.ntmps22
  go_wp2_with fail
  refine (graphMay S SC B G _ _ _ _ c ⟨4, id, typ, from_, to_, name, v, cascade⟩ _ (HGR.out.grow (HW.out _ _)) HI.out (HC.out.grow (HW.out _ _))).mono ?_
  rintro e w2 ⟨rfl, hg⟩
  rw [HM.out]
  have HG2 := Lib.hid ((HW.out _ _).step hg)
  have HOP2 := Lib.hid (HBX.out.2.grow hg)
  obtain ⟨hl2, c0, -⟩ := HOP2.out.at
  clear hg
  go_wp2_with fail
  refine (acts4 _).mono ?_
  rintro e w3 ⟨rfl, hg⟩
  have HG3 := Lib.hid (HG2.out.step hg)
  clear hl2 c0
  obtain ⟨hl2, c0, c1, c2, c3, c4, c5, c6, c7, c8, c9⟩ := (HOP2.out.grow hg).at
  clear hg
  go_wp2_with fail
  refine (dropEdge S B G ⟨4, id, typ, from_, to_, name, v, cascade⟩ _ (HGR.out.grow (HG3.out.allocd _)) HI.out (may_has4 HM.out)).mono ?_
  rintro e w4 ⟨rfl, hgr, hmd⟩
  have HGR4 := Lib.hid hgr; have HMD := Lib.hid ((Mod.of_grow (HG3.out.allocd _)).step hmd)
  clear hgr hmd c0 c1 c2 c3 c4 c5 c6 c7 c8 c9
  go_wp2
  go_ret2
  refine ⟨by rw [if_pos HM.out, HM.out]; rfl, ?_, HMD.out⟩
  unfold stepG
  rw [if_pos HM.out]
  exact HGR4.out.sub (fun b hb => .inl hb)

theorem may_find5 {c : PCat} {G : PGraph} {id from_ to_ : Int} {typ name : ByteArray} {v : PVal} {cascade : Bool} (h : mayG c ⟨5, id, typ, from_, to_, name, v, cascade⟩ G = 0) : ∃ ps, findP G id = some ps := by
  unfold mayG at h
  cases hf : findP G id
  · simp [hf] at h
    split at h <;> simp at h
  · exact ⟨_, rfl⟩
set_option maxRecDepth 100000 in
set_option maxHeartbeats 1000000 in
theorem do5 (S SC : Nat → Prop) (B : Nat) (G : PGraph) (nv ev rv iv : Value) (c : PCat) (o : POp) (w : World) (h : GraphOk 120 S w B G) (hG : GInv G) (hc : CatR SC w nv ev rv iv c) (hm : mayG c o G = 0) (hk : o.kind = 5) :
    Calls Tryz.prog 22 #[.pointer (some ⟨B, 0, none⟩), c.arg nv ev rv iv, o.args] w (DoPost S B G c o w) := by
  have HGR := Lib.hid h; have HI := Lib.hid hG; have HC := Lib.hid hc
  obtain ⟨kind, id, typ, from_, to_, name, v, cascade⟩ := o
  subst hk
  have HM := Lib.hid hm
  obtain ⟨ps, hps⟩ := may_find5 hm
  have HPS := Lib.hid hps; clear hps
  obtain ⟨na, nc, ea, ec, ra, rc, ia, ic, rfl, rfl, rfl, rfl⟩ := hc.slices
  have HW := Lib.hid (show ∀ o1 o2, Grow w ((w.alloc o1).alloc o2) from fun o1 o2 => ((Grow.rfl' w).allocd o1).allocd o2)
  have HBX := Lib.hid (boxes w (.slice na c.nodes.length nc) (.slice ea c.edges.length ec) (.slice ra c.rules.length rc) (.slice ia c.indexes.length ic) c ⟨5, id, typ, from_, to_, name, v, cascade⟩)
  clear h hc hG hm
  go_enter Tryz.func22, Tryz.ntmps22
  go_wp2_with fail
  refine (graphMay S SC B G _ _ _ _ c ⟨5, id, typ, from_, to_, name, v, cascade⟩ _ (HGR.out.grow (HW.out _ _)) HI.out (HC.out.grow (HW.out _ _))).mono ?_
  rintro e w2 ⟨rfl, hg⟩
  rw [HM.out]
  have HG2 := Lib.hid ((HW.out _ _).step hg)
  have HOP2 := Lib.hid (HBX.out.2.grow hg)
  obtain ⟨hl2, c0, -⟩ := HOP2.out.at
  clear hg
  go_wp2_with fail
  refine (acts5 _).mono ?_
  rintro e w3 ⟨rfl, hg⟩
  have HG3 := Lib.hid (HG2.out.step hg)
  clear hl2 c0
  obtain ⟨hl2, c0, c1, c2, c3, c4, c5, c6, c7, c8, c9⟩ := (HOP2.out.grow hg).at
  clear hg
  go_wp2_with fail
  refine (setProp S B G ⟨5, id, typ, from_, to_, name, v, cascade⟩ ps _ (HGR.out.grow (HG3.out.allocd _)) HI.out HPS.out).mono ?_
  rintro e w4 ⟨rfl, hgr, hmd⟩
  have HGR4 := Lib.hid hgr; have HMD := Lib.hid ((Mod.of_grow (HG3.out.allocd _)).step hmd)
  clear hgr hmd c0 c1 c2 c3 c4 c5 c6 c7 c8 c9
  go_wp2
  go_ret2
  refine ⟨by rw [if_pos HM.out, HM.out]; rfl, ?_, HMD.out⟩
  unfold stepG
  rw [if_pos HM.out]
  exact HGR4.out.sub (fun b hb => hb.imp (fun x => x) (fun h => Nat.le_trans (HG3.out.allocd _).size h))

theorem may_kind {c : PCat} {o : POp} {G : PGraph} (h : mayG c o G = 0) : o.kind = 1 ∨ o.kind = 2 ∨ o.kind = 3 ∨ o.kind = 4 ∨ o.kind = 5 := by
  by_cases h1 : o.kind = 1
  · exact .inl h1
  by_cases h2 : o.kind = 2
  · exact .inr (.inl h2)
  by_cases h3 : o.kind = 3
  · exact .inr (.inr (.inl h3))
  by_cases h4 : o.kind = 4
  · exact .inr (.inr (.inr (.inl h4)))
  by_cases h5 : o.kind = 5
  · exact .inr (.inr (.inr (.inr h5)))
  unfold mayG at h
  rw [if_neg h1, if_neg h2, if_neg h3, if_neg h4, if_neg h5] at h
  simp at h
theorem graphDo (S SC : Nat → Prop) (B : Nat) (G : PGraph) (nv ev rv iv : Value) (c : PCat) (o : POp) (w : World) (h : GraphOk 120 S w B G) (hG : GInv G) (hc : CatR SC w nv ev rv iv c) :
    Calls Tryz.prog 22 #[.pointer (some ⟨B, 0, none⟩), c.arg nv ev rv iv, o.args] w (DoPost S B G c o w) := by
  by_cases hm : mayG c o G = 0
  · rcases may_kind hm with hk | hk | hk | hk | hk
    · exact do1 S SC B G nv ev rv iv c o w h hG hc hm hk
    · exact do2 S SC B G nv ev rv iv c o w h hG hc hm hk
    · exact do3 S SC B G nv ev rv iv c o w h hG hc hm hk
    · exact do4 S SC B G nv ev rv iv c o w h hG hc hm hk
    · exact do5 S SC B G nv ev rv iv c o w h hG hc hm hk
  · exact doNo S SC B G nv ev rv iv c o w h hG hc hm
end Go.Hg

namespace Go.Hg
open Go.RowKit Go.Proofs

abbrev OpsR (S : Nat → Prop) (w : World) (v : Value) (l : List POp) : Prop := SlR S w 10 (fun o r => r = POp.cells o) v l
def largeV (v : PVal) : Bool := decide (5000 < v.s.size)
def largeO (o : POp) : Bool := decide (1000 < o.typ.size) || (decide (1000 < o.name.size) || largeV o.v)
def fairOps (l : List POp) : Bool := (l.all fun o => !largeO o) && decide (l.length ≤ 200)

set_option maxHeartbeats 400000 in
theorem keepLargeValue (v : PVal) (w : World) : Calls Tryz.prog 126 #[.agg #[.int .i64 v.kind, .int .i64 v.n, .string v.s]] w fun e w' => e = .returned (.bool (largeV v)) ∧ Grow w w' := by
  have HW := Lib.hid (show ∀ o1, Grow w (w.alloc o1) from fun o1 => (Grow.rfl' w).allocd o1)
  have hd : decide ((5000 : Int) < (v.s.size : Int)) = largeV v := by unfold largeV; by_cases h : 5000 < v.s.size <;> simp [h] <;> omega
  go_enter Tryz.func126, Tryz.ntmps126
  go_wp2
  go_ret
  exact ⟨by first | (rw [← hd]; rfl) | rfl, HW.out _⟩

set_option maxRecDepth 100000 in
set_option maxHeartbeats 1000000 in
theorem keepLargeOp (o : POp) (w : World) : Calls Tryz.prog 84 #[o.args] w fun e w' => e = .returned (.bool (largeO o)) ∧ Grow w w' := by
  have HW := Lib.hid (show ∀ o1, Grow w (w.alloc o1) from fun o1 => (Grow.rfl' w).allocd o1)
  have HX := Lib.hid (show largeO o = (decide (1000 < o.typ.size) || (decide (1000 < o.name.size) || largeV o.v)) from rfl)
  have hd1 : decide ((1000 : Int) < (o.typ.size : Int)) = decide (1000 < o.typ.size) := by by_cases h : 1000 < o.typ.size <;> simp [h] <;> omega
  have hd2 : decide ((1000 : Int) < (o.name.size : Int)) = decide (1000 < o.name.size) := by by_cases h : 1000 < o.name.size <;> simp [h] <;> omega
  cases q1 : decide (1000 < o.typ.size)
  · rw [q1] at hd1
    cases q2 : decide (1000 < o.name.size)
    · rw [q2] at hd2
      have HY := Lib.hid (show largeO o = largeV o.v by rw [HX.out, q1, q2]; rfl)
      clear q1 q2
      go_enter Tryz.func84, Tryz.ntmps84
      go_wp2_with fail
      refine (keepLargeValue o.v _).mono ?_
      rintro e w2 ⟨rfl, hg⟩
      have HG := Lib.hid ((HW.out _).step hg); clear hg
      go_wp2
      go_ret
      exact ⟨by rw [HY.out]; rfl, HG.out⟩
    · rw [q2] at hd2
      have HY := Lib.hid (show largeO o = true by rw [HX.out, q1, q2]; rfl)
      clear q1 q2
      go_enter Tryz.func84, Tryz.ntmps84
      go_wp2
      go_ret
      exact ⟨by rw [HY.out]; rfl, HW.out _⟩
  · rw [q1] at hd1
    have HY := Lib.hid (show largeO o = true by rw [HX.out, q1]; rfl)
    clear q1
    go_enter Tryz.func84, Tryz.ntmps84
    go_wp2
    go_ret
    exact ⟨by rw [HY.out]; rfl, HW.out _⟩

theorem opCells {w wr : World} {o : POp} {r : List Value} {b off : Nat} (h : r = o.cells) (hb : b < w.heap.size) (g : Grow w wr) (hc : ∀ (j : Nat) c, r[j]? = some c → w.cell? ⟨b, off + j, none⟩ = some c) :
    b < wr.heap.size ∧ wr.cell? ⟨b, off, none⟩ = some (.int .i64 o.kind) ∧ wr.cell? ⟨b, off + 1, none⟩ = some (.int .i64 o.id) ∧ wr.cell? ⟨b, off + 2, none⟩ = some (.string o.typ) ∧
    wr.cell? ⟨b, off + 3, none⟩ = some (.int .i64 o.from_) ∧ wr.cell? ⟨b, off + 4, none⟩ = some (.int .i64 o.to_) ∧ wr.cell? ⟨b, off + 5, none⟩ = some (.string o.name) ∧ wr.cell? ⟨b, off + 6, none⟩ = some (.int .i64 o.v.kind) ∧
    wr.cell? ⟨b, off + 7, none⟩ = some (.int .i64 o.v.n) ∧ wr.cell? ⟨b, off + 8, none⟩ = some (.string o.v.s) ∧ wr.cell? ⟨b, off + 9, none⟩ = some (.bool o.cascade) := by
  subst h
  have e : ∀ o', wr.cell? ⟨b, o', none⟩ = w.cell? ⟨b, o', none⟩ := fun o' => World.cell?_of_block (w := w) (g.heapEq hb)
  have hs := g.size
  refine ⟨by omega, ?_, ?_, ?_, ?_, ?_, ?_, ?_, ?_, ?_, ?_⟩ <;> rw [e]
  · exact hc 0 _ rfl
  · exact hc 1 _ rfl
  · exact hc 2 _ rfl
  · exact hc 3 _ rfl
  · exact hc 4 _ rfl
  · exact hc 5 _ rfl
  · exact hc 6 _ rfl
  · exact hc 7 _ rfl
  · exact hc 8 _ rfl
  · exact hc 9 _ rfl

set_option maxRecDepth 100000 in
set_option maxHeartbeats 1000000 in
theorem lawFair (S : Nat → Prop) (v : Value) (l : List POp) (w : World) (hl : OpsR S w v l) :
    Calls Tryz.prog 36 #[v] w fun e w' => e = .returned (.bool (fairOps l)) ∧ Grow w w' := by
  obtain ⟨aa, ca, rfl, hal, hac, hA⟩ := SlR.open hl
  clear hl
  unfold maxLen at hac
  have HA := Lib.hid hA; clear hA
  have hd : decide ((l.length : Int) ≤ 200) = decide (l.length ≤ 200) := by by_cases h : l.length ≤ 200 <;> simp [h] <;> omega
  have HDD := Lib.hid hd; clear hd
  go_enter Tryz.func36, Tryz.ntmps36
  go_wp2
  go_loopg [3] l.length (fun g i wr => ∃ k : Nat, k ≤ l.length ∧ g = l.length - k ∧ i = .int .i64 k ∧ (∀ y ∈ l.take k, largeO y = false) ∧ Grow w wr)
  case atStart => exact ⟨0, by omega, by omega, rfl, by simp, Grow.rfl' w⟩
  case round =>
    obtain ⟨k, hk, rfl, rfl, hall, hgr⟩ := hrel
    have HALL := Lib.hid hall; have HGR := Lib.hid hgr; clear hall
    by_cases hkl : k < l.length
    · obtain ⟨ba, oa, ra, rfl, hSa, hba, hRa, hca⟩ := HA.out k l[k] (List.getElem?_eq_getElem hkl)
      obtain ⟨hba', a0, a1, a2, a3, a4, a5, a6, a7, a8, a9⟩ := opCells hRa hba hgr hca
      clear hca hRa hSa hba hgr
      have HM := Lib.hid (show l[k] ∈ l from List.getElem_mem hkl)
      have HT := Lib.hid (show l.take (k + 1) = l.take k ++ [l[k]] from List.take_succ_eq_append_getElem hkl)
      generalize l[k] = x at *
      go_wp2_with fail
      refine (keepLargeOp x _).mono ?_
      rintro e w2 ⟨rfl, hg⟩
      have HG := Lib.hid (HGR.out.step hg); clear hg
      cases hx : largeO x
      · go_wp2_with fail
        go_roundg (l.length - (k + 1))
        case measure => omega
        case rel => exact ⟨k + 1, by omega, rfl, by go_num, by rw [HT.out]; intro y hy; rcases List.mem_append.1 hy with h | h; exact HALL.out y h; simp at h; subst h; exact hx, HG.out⟩
      · have HF := Lib.hid (show fairOps l = false by unfold fairOps; rw [List.all_eq_false.2 ⟨x, HM.out, by rw [hx]; simp⟩]; rfl)
        go_wp2
        go_ret
        exact ⟨by rw [HF.out]; rfl, HG.out⟩
    · have HF := Lib.hid (show fairOps l = decide (l.length ≤ 200) by
        have h1 : l.take k = l := List.take_of_length_le (by omega)
        have h2 := HALL.out
        rw [h1] at h2
        unfold fairOps
        rw [List.all_eq_true.2 (fun y hy => by rw [h2 y hy]; rfl)]
        rfl)
      have hd := HDD.out
      clear hgr
      go_wp2
      go_ret
      exact ⟨by rw [HF.out]; first | rfl | (rw [← hd]; rfl), HGR.out⟩

theorem results_cell1 {fn : Func} {p : Tmp} {ty : TypeId} (h : fn.results = #[.cell p ty]) (tmps : Array Value) (P : Program) (w : World) :
    (results fn tmps).run P w = ((asAddr (tmps.getD p undef)).run P w).andThen fun a w₁ => (loadVar ty a).run P w₁ := by
  simp only [results, h]
  simp [Sem.run_bind, Result.andThen]

def sCity : ByteArray := ⟨#[99, 105, 116, 121]⟩
def sMan : ByteArray := ⟨#[109, 97, 110]⟩
def sZoo : ByteArray := ⟨#[122, 111, 111]⟩
def sKnows : ByteArray := ⟨#[107, 110, 111, 119, 115]⟩
def sRoad : ByteArray := ⟨#[114, 111, 97, 100]⟩
def typesC : PCat := ⟨[sCity, sMan, sZoo], [sKnows, sRoad], [], [], 1⟩

theorem strsLit (w : World) (l : List ByteArray) (E : TypeId) (hm : l.length ≤ maxLen) : StrsR (fun b => w.heap.size ≤ b) (w.alloc (.cells (l.map Value.string).toArray E)) (.slice (some ⟨w.heap.size, 0, none⟩) l.length l.length) l := by
  have h := OwnS.lit w (l.map Value.string).toArray E 1 l.length hm (by simp)
  have h2 : OwnL (w.alloc (.cells (l.map Value.string).toArray E)) E 1 RStr (.slice (some ⟨w.heap.size, 0, none⟩) l.length l.length) l (some w.heap.size) := ⟨l.map (fun s => [.string s]), by simp, fun k x r hx hr => by
    rw [List.getElem?_map, hx] at hr
    simp only [Option.map_some, Option.some.injEq] at hr
    subst hr
    exact ⟨rfl, rfl⟩, by
    have e : (l.map fun s => [Value.string s]).flatten = (l.map Value.string).toArray.toList := by
      rw [List.toList_toArray]
      clear h hm
      induction l with
      | nil => rfl
      | cons a t ih => simp [ih]
    rw [e]; exact h⟩
  exact h2.toSl (fun g hg => by cases hg; exact Nat.le_refl _)

set_option maxRecDepth 100000 in
set_option maxHeartbeats 1000000 in
theorem lawTypes (w : World) : Calls Tryz.prog 23 #[] w fun e w' => ∃ nv ev, e = .returned (typesC.arg nv ev (.slice none 0 0) (.slice none 0 0)) ∧ CatR (fun b => w.heap.size ≤ b) w' nv ev (.slice none 0 0) (.slice none 0 0) typesC ∧ Grow w w' := by
  have H0 := Lib.hid (show ∀ o1, Grow w (w.alloc o1) from fun o1 => (Grow.rfl' w).allocd o1)
  go_enter Tryz.func23, Tryz.ntmps23
  go_wp2
  refine bodyPost_ret (v := typesC.arg (.slice (some ⟨w.heap.size + 1, 0, none⟩) 3 3) (.slice (some ⟨w.heap.size + 1 + 1, 0, none⟩) 2 2) (.slice none 0 0) (.slice none 0 0)) ?_ rfl ⟨_, _, rfl, ?_, ?_⟩
  · rw [results_cell1 rfl]
    go_simp
    rfl
  · have q1 := strsLit (w.alloc (.cells #[.slice (some ⟨w.heap.size + 1, 0, none⟩) 3 3, .slice (some ⟨w.heap.size + 1 + 1, 0, none⟩) 2 2, .slice none 0 0, .slice none 0 0, .int .i64 1] 52)) [sCity, sMan, sZoo] 9 (by simp [maxLen])
    have q2 := strsLit ((w.alloc (.cells #[.slice (some ⟨w.heap.size + 1, 0, none⟩) 3 3, .slice (some ⟨w.heap.size + 1 + 1, 0, none⟩) 2 2, .slice none 0 0, .slice none 0 0, .int .i64 1] 52)).alloc (.cells #[.string sCity, .string sMan, .string sZoo] 9)) [sKnows, sRoad] 9 (by simp [maxLen])
    simp only [World.size_alloc] at q1 q2
    refine ⟨SlR.sub (q1.growS ((Grow.rfl' _).allocd _)) (fun b hb => by omega) (fun _ _ _ h => h), SlR.sub q2 (fun b hb => by omega) (fun _ _ _ h => h), ?_, ?_⟩
    · exact (OwnL.nil _ 0 _ _).toSl (by simp)
    · exact (OwnL.nil _ 0 _ _).toSl (by simp)
  · exact (((Grow.rfl' w).allocd _).allocd _).allocd _
end Go.Hg

namespace Go.Hg
open Go.RowKit Go.Proofs

abbrev PVal.args (v : PVal) : Value := .agg #[.int .i64 v.kind, .int .i64 v.n, .string v.s]

end Go.Hg

namespace Go.Hg
open Go.RowKit Go.Proofs

def RuleBox (w : World) (b : Nat) (r : PRule) : Prop := w.heap[b]? = some (.cells #[.int .i64 r.id, .int .i64 r.kind, .string r.typ, .string r.name, .string r.from_, .string r.to_, .int .i64 r.n, .int .i64 r.state] 24 (0, 0))
theorem RuleBox.grow {w w' : World} {b : Nat} {r : PRule} (h : RuleBox w b r) (g : Grow w w') : RuleBox w' b r := (g.heapEq (blk_lt h)).trans h
theorem RuleBox.cells {w : World} {b : Nat} {r : PRule} (h : RuleBox w b r) : b < w.heap.size ∧ w.cell? ⟨b, 1, none⟩ = some (.int .i64 r.kind) ∧ w.cell? ⟨b, 2, none⟩ = some (.string r.typ) ∧ w.cell? ⟨b, 3, none⟩ = some (.string r.name) ∧
    w.cell? ⟨b, 4, none⟩ = some (.string r.from_) ∧ w.cell? ⟨b, 5, none⟩ = some (.string r.to_) ∧ w.cell? ⟨b, 6, none⟩ = some (.int .i64 r.n) ∧ w.cell? ⟨b, 7, none⟩ = some (.int .i64 r.state) ∧ w.cell? ⟨b, 0, none⟩ = some (.int .i64 r.id) := by
  unfold RuleBox at h
  exact ⟨blk_lt h, by rw [blk_cell h]; rfl, by rw [blk_cell h]; rfl, by rw [blk_cell h]; rfl, by rw [blk_cell h]; rfl, by rw [blk_cell h]; rfl, by rw [blk_cell h]; rfl, by rw [blk_cell h]; rfl, by rw [blk_cell h]; rfl⟩
def OneBox (w : World) (b : Nat) (v : Value) : Prop := ∃ T, w.heap[b]? = some (.cells #[v] T (0, 0))
theorem OneBox.grow {w w' : World} {b : Nat} {v : Value} (h : OneBox w b v) (g : Grow w w') : OneBox w' b v := by
  obtain ⟨T, h⟩ := h
  exact ⟨T, (g.heapEq (blk_lt h)).trans h⟩
theorem OneBox.cell {w : World} {b : Nat} {v : Value} (h : OneBox w b v) : b < w.heap.size ∧ w.cell? ⟨b, 0, none⟩ = some v := by
  obtain ⟨T, h⟩ := h
  exact ⟨blk_lt h, by rw [blk_cell h]; rfl⟩
def AsksN (f : Nat) (caps : Array Value) (p : PNode → Bool) (S : Nat → Prop) (w : World) : Prop :=
  (∀ args w, (callFunc f args).run Tryz.prog w = .ok (.enter f args) w) ∧ ∀ (x : PNode) (pv : Value) (w' : World), Grow w w' → PropsR S w' pv x.props → Calls Tryz.prog f (#[.agg #[.int .i64 x.id, .string x.typ, pv]] ++ caps) w' fun e w2 => e = .returned (.bool (p x)) ∧ Grow w' w2
theorem AsksN.grow {f : Nat} {c : Array Value} {p : PNode → Bool} {S : Nat → Prop} {w w' : World} (h : AsksN f c p S w) (g : Grow w w') : AsksN f c p S w' := ⟨h.1, fun x pv w2 g2 hp => h.2 x pv w2 (g.step g2) hp⟩
def AsksF (f : Nat) (caps : Array Value) (p : PEdge → Bool) (S : Nat → Prop) (w : World) : Prop :=
  (∀ args w, (callFunc f args).run Tryz.prog w = .ok (.enter f args) w) ∧ ∀ (x : PEdge) (pv : Value) (w' : World), Grow w w' → PropsR S w' pv x.props → Calls Tryz.prog f (#[x.args pv] ++ caps) w' fun e w2 => e = .returned (.bool (p x)) ∧ Grow w' w2
theorem AsksF.grow {f : Nat} {c : Array Value} {p : PEdge → Bool} {S : Nat → Prop} {w w' : World} (h : AsksF f c p S w) (g : Grow w w') : AsksF f c p S w' := ⟨h.1, fun x pv w2 g2 hp => h.2 x pv w2 (g.step g2) hp⟩
end Go.Hg

namespace Go.Hg
open MapKept

def MapI (w : World) (b : Nat) (f : Int → Option Value) (n : Nat) : Prop :=
  ∃ es clock, w.heap[b]? = some (.map es clock) ∧ Stamped es clock ∧ es.size ≤ n ∧ (∀ x ∈ es.toList, ∃ k, x.key = .int .i64 k) ∧ ∀ k v, f k = some v ↔ ∃ x ∈ es.toList, x.key = .int .i64 k ∧ x.val = v
def fput (f : Int → Option Value) (k : Int) (v : Value) : Int → Option Value := fun x => if x = k then some v else f x
theorem fput_same (f : Int → Option Value) (k : Int) (v : Value) : fput f k v k = some v := by simp [fput]
theorem fput_other (f : Int → Option Value) {k x : Int} (v : Value) (h : x ≠ k) : fput f k v x = f x := by simp [fput, h]
theorem MapI.lt {w : World} {b n : Nat} {f : Int → Option Value} (h : MapI w b f n) : b < w.heap.size := by
  obtain ⟨es, c, hb, -⟩ := h
  exact (Array.getElem?_eq_some_iff.1 hb).1
theorem MapI.mono {w : World} {b n n' : Nat} {f : Int → Option Value} (h : MapI w b f n) (hn : n ≤ n') : MapI w b f n' := by
  obtain ⟨es, c, hb, hs, hz, r⟩ := h
  exact ⟨es, c, hb, hs, Nat.le_trans hz hn, r⟩
theorem MapI.keep {w w' : World} {b n : Nat} {f : Int → Option Value} (h : MapI w b f n) (hw : w'.heap[b]? = w.heap[b]?) : MapI w' b f n := by
  obtain ⟨es, c, hb, r⟩ := h
  exact ⟨es, c, hw.trans hb, r⟩
theorem MapI.mod {w w' : World} {b n : Nat} {f : Int → Option Value} {F : Nat → Prop} (h : MapI w b f n) (hm : Mod F w w') (hF : ¬ F b) : MapI w' b f n := h.keep (hm.block b h.lt hF)
theorem MapI.grow {w w' : World} {b n : Nat} {f : Int → Option Value} (h : MapI w b f n) (hg : Grow w w') : MapI w' b f n := h.keep (hg.heapEq h.lt)
theorem MapI.made (w : World) : MapI (w.alloc (.map #[] 0)) w.heap.size (fun _ => none) 0 :=
  ⟨#[], 0, (MapKept.heap_alloc w _).1, stamped_empty 0, by simp, by simp, by simp⟩

section
variable {P : Program} {w : World} {b n : Nat} {f : Int → Option Value} {t kt et : TypeId}
theorem mapI_find {es : Array MapEntry} (hk : ∀ x ∈ es.toList, ∃ k, x.key = .int .i64 k) (k : Int) :
    (Instr.findNow (.int .i64) (.int .i64 k) es.toList 0 = some none ∧ ∀ x ∈ es.toList, x.key ≠ .int .i64 k) ∨ ∃ j e, Instr.findNow (.int .i64) (.int .i64 k) es.toList 0 = some (some (j, e.val)) ∧ es.toList[j]? = some e ∧ e.key = .int .i64 k := by
  have h := findNow_spec (d := .int .i64) (k := .int .i64 k) (by simp [IsKey]) es.toList 0 (fun x hx => by obtain ⟨q, hq⟩ := hk x hx; simp [hq, IsKey])
  simpa using h
theorem MapI.look (h : MapI w b f n) (ht : P.underlying t = some (.map kt et)) (hk : P.underlying kt = some (.int .i64)) {z : Value} (hz : (zeroValue et).run P w = .ok z w) (k : Int) :
    (Instr.lookup t (.map (some b)) (.int .i64 k) false).run P w = .ok ((f k).getD z) w := by
  obtain ⟨es, c, hb, hs, -, hi, hf⟩ := h
  have hc : (Instr.checkKey es.isEmpty 10000 kt (.int .i64 k)).run P w = .ok () w := MapKept.run_checkKey (k := .int .i64 k) hk (by simp [IsKey]) es.isEmpty 9999
  rcases mapI_find hi k with ⟨h1, h2⟩ | ⟨j, e, h1, h2, h3⟩
  · have hn : f k = none := by
      cases hfk : f k with
      | none => rfl
      | some v => obtain ⟨x, hx, h3, -⟩ := (hf k v).1 hfk; exact absurd h3 (h2 x hx)
    have hf' := MapKept.run_findKey (P := P) (w := w) hk h1
    simp [Instr.lookup, run_underlying ht, MapKept.run_getObj_map hb, Result.andThen]
    rw [hc]
    simp [hf', hz, hn]
  · have hn : f k = some e.val := (hf k e.val).2 ⟨e, List.mem_of_getElem? h2, h3, rfl⟩
    have hf' := MapKept.run_findKey (P := P) (w := w) hk h1
    simp [Instr.lookup, run_underlying ht, MapKept.run_getObj_map hb, Result.andThen]
    rw [hc]
    simp [hf', hn]
theorem MapI.update (h : MapI w b f n) (ht : P.underlying t = some (.map kt et)) (hk : P.underlying kt = some (.int .i64)) (k : Int) (v : Value) :
    ∃ w', (Instr.mapUpdate t (.map (some b)) (.int .i64 k) v).run P w = .ok () w' ∧ MapI w' b (fput f k v) (n + 1) ∧ ((f k).isSome → MapI w' b (fput f k v) n) ∧ Mod (fun r => r = b) w w' ∧ w'.heap.size = w.heap.size := by
  obtain ⟨es, c, hb, hs, hn, hi, hf⟩ := h
  have hkk : IsKey (.int .i64) (.int .i64 k) := by simp [IsKey]
  have hc : (Instr.checkKey false 10000 kt (.int .i64 k)).run P w = .ok () w := MapKept.run_checkKey (k := .int .i64 k) hk hkk false 9999
  rcases mapI_find hi k with ⟨h1, h2⟩ | ⟨j, e, h1, h2, h3⟩
  · have hf' := MapKept.run_findKey (P := P) (w := w) hk h1
    have hfk : f k = none := by
      cases hfk : f k with
      | none => rfl
      | some v => obtain ⟨x, hx, h3, -⟩ := (hf k v).1 hfk; exact absurd h3 (h2 x hx)
    have hM : MapI { w with heap := w.heap.setIfInBounds b (.map (es.push { key := .int .i64 k, val := v, born := c }) (c + 1)) } b (fput f k v) (n + 1) := by
      refine ⟨_, _, (heap_set hb).1, stamped_push hs h2, by simp; omega, ?_, ?_⟩
      · intro x hx
        simp only [Array.toList_push, List.mem_append, List.mem_singleton] at hx
        rcases hx with hx | rfl
        · exact hi x hx
        · exact ⟨k, rfl⟩
      · intro k' v'
        simp only [Array.toList_push, List.mem_append, List.mem_singleton]
        by_cases hkk' : k' = k
        · subst hkk'
          rw [fput_same]
          constructor
          · intro hv
            exact ⟨_, .inr rfl, rfl, Option.some.inj hv⟩
          · rintro ⟨x, hx | rfl, h3, h4⟩
            · exact absurd h3 (h2 x hx)
            · exact congrArg some h4
        · rw [fput_other _ _ hkk', hf]
          constructor
          · rintro ⟨x, hx, h3, h4⟩
            exact ⟨x, .inl hx, h3, h4⟩
          · rintro ⟨x, hx | rfl, h3, h4⟩
            · exact ⟨x, hx, h3, h4⟩
            · simp only [Value.int.injEq, true_and] at h3
              exact absurd h3.symm hkk'
    refine ⟨_, ?_, hM, fun hs => by simp [hfk] at hs, ?_, by simp⟩
    · simp [Instr.mapUpdate, run_underlying ht, MapKept.run_getObj_map hb, hc, hf', MapKept.run_setObj_map _ hb, Result.andThen]
    · exact ⟨rfl, rfl, rfl, by simp, fun r hr hne => (heap_set hb).2 r hne⟩
  · have hf' := MapKept.run_findKey (P := P) (w := w) hk h1
    have hj : es[j]? = some e := by simpa using h2
    have hM : MapI { w with heap := w.heap.setIfInBounds b (.map (es.modify j (fun e => { e with key := .int .i64 k, val := v })) c) } b (fput f k v) n := by
      have hkey : ∀ e', es[j]? = some e' → ({ e' with key := .int .i64 k, val := v } : MapEntry).key = e'.key := fun e' he' => by rw [hj] at he'; cases he'; exact h3.symm
      have hmem : ∀ x, x ∈ (es.modify j (fun e => { e with key := .int .i64 k, val := v })).toList ↔ ∃ i y, es[i]? = some y ∧ x = if j = i then { y with key := .int .i64 k, val := v } else y := by
        intro x
        rw [List.mem_iff_getElem?]
        simp only [Array.getElem?_toList, Array.getElem?_modify]
        constructor
        · rintro ⟨i, hi'⟩
          by_cases hji : j = i
          · subst hji
            simp [hj] at hi'
            exact ⟨j, e, hj, by simp [hi']⟩
          · simp [hji] at hi'
            exact ⟨i, x, hi', by simp [hji]⟩
        · rintro ⟨i, y, hy, rfl⟩
          refine ⟨i, ?_⟩
          by_cases hji : j = i
          · subst hji
            simp [hy]
          · simp [hji, hy]
      refine ⟨_, _, (heap_set hb).1, stamped_modify hs _ _ (fun _ _ => rfl) (fun e' _ he' => hkey e' he'), by simp; omega, ?_, ?_⟩
      · intro x hx
        obtain ⟨i, y, hy, rfl⟩ := (hmem x).1 hx
        by_cases hji : j = i
        · simp [hji]
        · simp only [hji, if_false]
          exact hi y (List.mem_of_getElem? (by simpa using hy))
      · intro k' v'
        by_cases hkk' : k' = k
        · subst hkk'
          rw [fput_same]
          constructor
          · intro hv
            exact ⟨{ e with key := .int .i64 k', val := v }, (hmem _).2 ⟨j, e, hj, by simp⟩, rfl, Option.some.inj hv⟩
          · rintro ⟨x, hx, h4, h5⟩
            obtain ⟨i, y, hy, rfl⟩ := (hmem x).1 hx
            by_cases hji : j = i
            · simp [hji] at h5
              exact congrArg some h5
            · exfalso
              simp only [hji, if_false] at h4
              have hnd := hs.2.2
              have hnd := List.pairwise_iff_getElem.1 hnd
              have hjl : j < es.toList.length := by simpa using (Array.getElem?_eq_some_iff.1 hj).1
              have hil : i < es.toList.length := by simpa using (Array.getElem?_eq_some_iff.1 hy).1
              have ej : es.toList[j] = e := by simpa using (Array.getElem?_eq_some_iff.1 hj).2
              have ei : es.toList[i] = y := by simpa using (Array.getElem?_eq_some_iff.1 hy).2
              rcases Nat.lt_or_gt_of_ne hji with hlt | hlt
              · exact hnd j i (by simpa using hjl) (by simpa using hil) hlt (by simp only [List.getElem_map, ej, ei, h3, h4])
              · exact hnd i j (by simpa using hil) (by simpa using hjl) hlt (by simp only [List.getElem_map, ej, ei, h3, h4])
        · rw [fput_other _ _ hkk', hf]
          constructor
          · rintro ⟨x, hx, h4, h5⟩
            obtain ⟨i, hi'⟩ := List.mem_iff_getElem?.1 hx
            have hji : j ≠ i := by
              rintro rfl
              rw [h2] at hi'
              cases hi'
              rw [h3] at h4
              simp only [Value.int.injEq, true_and] at h4
              exact hkk' h4.symm
            exact ⟨x, (hmem x).2 ⟨i, x, by simpa using hi', by simp [hji]⟩, h4, h5⟩
          · rintro ⟨x, hx, h4, h5⟩
            obtain ⟨i, y, hy, rfl⟩ := (hmem x).1 hx
            by_cases hji : j = i
            · simp [hji] at h4
              exact absurd h4.symm hkk'
            · simp only [hji, if_false] at h4 h5
              exact ⟨y, List.mem_of_getElem? (by simpa using hy), h4, h5⟩
    refine ⟨_, ?_, hM.mono (Nat.le_succ _), fun _ => hM, ?_, by simp⟩
    · simp [Instr.mapUpdate, run_underlying ht, MapKept.run_getObj_map hb, hc, hf', hj, h3, run_keyThatStays hkk, MapKept.run_setObj_map _ hb, Result.andThen]
    · exact ⟨rfl, rfl, rfl, by simp, fun r hr hne => (heap_set hb).2 r hne⟩

variable {ops : Array Oper} {rest : List Oper} {o : Oper} {a : Act} {Q : Exit → Act → World → Prop}
end
end Go.Hg

namespace Go.Hg
open MapKept

structure KeyK (P : Program) (kt : TypeId) {κ : Type} (kv : κ → Value) : Prop where
  inj : ∀ {a b : κ}, kv a = kv b → a = b
  check : ∀ (w : World) (e : Bool) (k : κ), (Instr.checkKey e 10000 kt (kv k)).run P w = .ok () w
  find : ∀ (w : World) (k : κ) (es : List MapEntry), (∀ x ∈ es, ∃ q, x.key = kv q) → ((Instr.findKey kt (kv k) es).run P w = .ok none w ∧ ∀ x ∈ es, x.key ≠ kv k) ∨
    ∃ j e, (Instr.findKey kt (kv k) es).run P w = .ok (some (j, e.val)) w ∧ es[j]? = some e ∧ e.key = kv k
  stays : ∀ (w : World) (k : κ), (Instr.keyThatStays (kv k) (kv k)).run P w = .ok (kv k) w
theorem keyK_int {P : Program} {kt : TypeId} (hk : P.underlying kt = some (.int .i64)) : KeyK P kt (fun k : Int => .int .i64 k) where
  inj h := by simpa using h
  check w e k := MapKept.run_checkKey (k := .int .i64 k) hk (by simp [IsKey]) e 9999
  find w k es hes := by
    rcases mapI_find (es := es.toArray) (by simpa using hes) k with ⟨h1, h2⟩ | ⟨j, e, h1, h2, h3⟩
    · exact .inl ⟨MapKept.run_findKey hk (by simpa using h1), by simpa using h2⟩
    · exact .inr ⟨j, e, MapKept.run_findKey hk (by simpa using h1), by simpa using h2, h3⟩
  stays w k := run_keyThatStays (d := .int .i64) (by simp [IsKey])
section
variable {κ : Type} {kv : κ → Value}

def MapK (kv : κ → Value) (w : World) (b : Nat) (f : κ → Option Value) (n : Nat) : Prop :=
  ∃ es clock, w.heap[b]? = some (.map es clock) ∧ Stamped es clock ∧ es.size ≤ n ∧ (∀ x ∈ es.toList, ∃ k, x.key = kv k) ∧ ∀ k v, f k = some v ↔ ∃ x ∈ es.toList, x.key = kv k ∧ x.val = v
def kput [DecidableEq κ] (f : κ → Option Value) (k : κ) (v : Value) : κ → Option Value := fun x => if x = k then some v else f x
theorem kput_same [DecidableEq κ] (f : κ → Option Value) (k : κ) (v : Value) : kput f k v k = some v := by simp [kput]
theorem kput_other [DecidableEq κ] (f : κ → Option Value) {k x : κ} (v : Value) (h : x ≠ k) : kput f k v x = f x := by simp [kput, h]
theorem kput_twice [DecidableEq κ] (f : κ → Option Value) (k : κ) (v u : Value) : kput (kput f k v) k u = kput f k u := by
  funext x
  by_cases h : x = k <;> simp [kput, h]
theorem MapK.lt {w : World} {b n : Nat} {f : κ → Option Value} (h : MapK kv w b f n) : b < w.heap.size := by
  obtain ⟨es, c, hb, -⟩ := h
  exact (Array.getElem?_eq_some_iff.1 hb).1
theorem MapK.mono {w : World} {b n n' : Nat} {f : κ → Option Value} (h : MapK kv w b f n) (hn : n ≤ n') : MapK kv w b f n' := by
  obtain ⟨es, c, hb, hs, hz, r⟩ := h
  exact ⟨es, c, hb, hs, Nat.le_trans hz hn, r⟩
theorem MapK.keep {w w' : World} {b n : Nat} {f : κ → Option Value} (h : MapK kv w b f n) (hw : w'.heap[b]? = w.heap[b]?) : MapK kv w' b f n := by
  obtain ⟨es, c, hb, r⟩ := h
  exact ⟨es, c, hw.trans hb, r⟩
theorem MapK.mod {w w' : World} {b n : Nat} {f : κ → Option Value} {F : Nat → Prop} (h : MapK kv w b f n) (hm : Mod F w w') (hF : ¬ F b) : MapK kv w' b f n := h.keep (hm.block b h.lt hF)
theorem MapK.grow {w w' : World} {b n : Nat} {f : κ → Option Value} (h : MapK kv w b f n) (hg : Grow w w') : MapK kv w' b f n := h.keep (hg.heapEq h.lt)
theorem MapK.made (w : World) : MapK kv (w.alloc (.map #[] 0)) w.heap.size (fun _ => none) 0 :=
  ⟨#[], 0, (MapKept.heap_alloc w _).1, stamped_empty 0, by simp, by simp, by simp⟩
def BornAt (kv : κ → Value) (w : World) (b : Nat) (s : Nat) (k : κ) : Prop := ∃ es clock, w.heap[b]? = some (.map es clock) ∧ ∃ x ∈ es.toList, x.born = s ∧ x.key = kv k

section
variable {P : Program} {w : World} {b n : Nat} {f : κ → Option Value} {t kt et : TypeId}
theorem MapK.pushed [DecidableEq κ] {es : Array MapEntry} {c : Nat} (hb : w.heap[b]? = some (.map es c)) (hs : Stamped es c) (hn : es.size ≤ n) (hi : ∀ x ∈ es.toList, ∃ k, x.key = kv k) (hf : ∀ k v, f k = some v ↔ ∃ x ∈ es.toList, x.key = kv k ∧ x.val = v)
    (inj : ∀ {a b : κ}, kv a = kv b → a = b) (k : κ) (v : Value) (h2 : ∀ x ∈ es.toList, x.key ≠ kv k) :
    MapK kv { w with heap := w.heap.setIfInBounds b (.map (es.push { key := kv k, val := v, born := c }) (c + 1)) } b (kput f k v) (n + 1) := by
  refine ⟨_, _, (heap_set hb).1, stamped_push hs h2, by simp; omega, ?_, ?_⟩
  · intro x hx
    simp only [Array.toList_push, List.mem_append, List.mem_singleton] at hx
    rcases hx with hx | rfl
    · exact hi x hx
    · exact ⟨k, rfl⟩
  · intro k' v'
    simp only [Array.toList_push, List.mem_append, List.mem_singleton]
    by_cases hkk' : k' = k
    · subst hkk'
      rw [kput_same]
      constructor
      · intro hv
        exact ⟨_, .inr rfl, rfl, Option.some.inj hv⟩
      · rintro ⟨x, hx | rfl, h3, h4⟩
        · exact absurd h3 (h2 x hx)
        · exact congrArg some h4
    · rw [kput_other _ _ hkk', hf]
      constructor
      · rintro ⟨x, hx, h3, h4⟩
        exact ⟨x, .inl hx, h3, h4⟩
      · rintro ⟨x, hx | rfl, h3, h4⟩
        · exact ⟨x, hx, h3, h4⟩
        · exact absurd (inj h3).symm hkk'
theorem MapK.modified [DecidableEq κ] {es : Array MapEntry} {c j : Nat} {e : MapEntry} (hb : w.heap[b]? = some (.map es c)) (hs : Stamped es c) (hn : es.size ≤ n) (hi : ∀ x ∈ es.toList, ∃ k, x.key = kv k) (hf : ∀ k v, f k = some v ↔ ∃ x ∈ es.toList, x.key = kv k ∧ x.val = v)
    (inj : ∀ {a b : κ}, kv a = kv b → a = b) (k : κ) (v : Value) (hj : es[j]? = some e) (h3 : e.key = kv k) :
    MapK kv { w with heap := w.heap.setIfInBounds b (.map (es.modify j (fun e => { e with key := kv k, val := v })) c) } b (kput f k v) n := by
  have h2 : es.toList[j]? = some e := by simpa using hj
  have hkey : ∀ e', es[j]? = some e' → ({ e' with key := kv k, val := v } : MapEntry).key = e'.key := fun e' he' => by rw [hj] at he'; cases he'; exact h3.symm
  have hmem : ∀ x, x ∈ (es.modify j (fun e => { e with key := kv k, val := v })).toList ↔ ∃ i y, es[i]? = some y ∧ x = if j = i then { y with key := kv k, val := v } else y := by
    intro x
    rw [List.mem_iff_getElem?]
    simp only [Array.getElem?_toList, Array.getElem?_modify]
    constructor
    · rintro ⟨i, hi'⟩
      by_cases hji : j = i
      · subst hji
        simp [hj] at hi'
        exact ⟨j, e, hj, by simp [hi']⟩
      · simp [hji] at hi'
        exact ⟨i, x, hi', by simp [hji]⟩
    · rintro ⟨i, y, hy, rfl⟩
      refine ⟨i, ?_⟩
      by_cases hji : j = i
      · subst hji
        simp [hy]
      · simp [hji, hy]
  refine ⟨_, _, (heap_set hb).1, stamped_modify hs _ _ (fun _ _ => rfl) (fun e' _ he' => hkey e' he'), by simp; omega, ?_, ?_⟩
  · intro x hx
    obtain ⟨i, y, hy, rfl⟩ := (hmem x).1 hx
    by_cases hji : j = i
    · exact ⟨k, by simp [hji]⟩
    · simp only [hji, if_false]
      exact hi y (List.mem_of_getElem? (by simpa using hy))
  · intro k' v'
    by_cases hkk' : k' = k
    · subst hkk'
      rw [kput_same]
      constructor
      · intro hv
        exact ⟨{ e with key := kv k', val := v }, (hmem _).2 ⟨j, e, hj, by simp⟩, rfl, Option.some.inj hv⟩
      · rintro ⟨x, hx, h4, h5⟩
        obtain ⟨i, y, hy, rfl⟩ := (hmem x).1 hx
        by_cases hji : j = i
        · simp [hji] at h5
          exact congrArg some h5
        · exfalso
          simp only [hji, if_false] at h4
          have hnd := hs.2.2
          have hnd := List.pairwise_iff_getElem.1 hnd
          have hjl : j < es.toList.length := by simpa using (Array.getElem?_eq_some_iff.1 hj).1
          have hil : i < es.toList.length := by simpa using (Array.getElem?_eq_some_iff.1 hy).1
          have ej : es.toList[j] = e := by simpa using (Array.getElem?_eq_some_iff.1 hj).2
          have ei : es.toList[i] = y := by simpa using (Array.getElem?_eq_some_iff.1 hy).2
          rcases Nat.lt_or_gt_of_ne hji with hlt | hlt
          · exact hnd j i (by simpa using hjl) (by simpa using hil) hlt (by simp only [List.getElem_map, ej, ei, h3, h4])
          · exact hnd i j (by simpa using hil) (by simpa using hjl) hlt (by simp only [List.getElem_map, ej, ei, h3, h4])
    · rw [kput_other _ _ hkk', hf]
      constructor
      · rintro ⟨x, hx, h4, h5⟩
        obtain ⟨i, hi'⟩ := List.mem_iff_getElem?.1 hx
        have hji : j ≠ i := by
          rintro rfl
          rw [h2] at hi'
          cases hi'
          rw [h3] at h4
          exact hkk' (inj h4).symm
        exact ⟨x, (hmem x).2 ⟨i, x, by simpa using hi', by simp [hji]⟩, h4, h5⟩
      · rintro ⟨x, hx, h4, h5⟩
        obtain ⟨i, y, hy, rfl⟩ := (hmem x).1 hx
        by_cases hji : j = i
        · simp [hji] at h4
          exact absurd (inj h4).symm hkk'
        · simp only [hji, if_false] at h4 h5
          exact ⟨y, List.mem_of_getElem? (by simpa using hy), h4, h5⟩
theorem MapK.none_of {es : Array MapEntry} (hf : ∀ k v, f k = some v ↔ ∃ x ∈ es.toList, x.key = kv k ∧ x.val = v) {k : κ} (h2 : ∀ x ∈ es.toList, x.key ≠ kv k) : f k = none := by
  cases hfk : f k with
  | none => rfl
  | some v => obtain ⟨x, hx, h3, -⟩ := (hf k v).1 hfk; exact absurd h3 (h2 x hx)
theorem MapK.mod_set {es : Array MapEntry} {c : Nat} (hb : w.heap[b]? = some (.map es c)) (o : Obj) : Mod (fun r => r = b) w { w with heap := w.heap.setIfInBounds b o } :=
  ⟨rfl, rfl, rfl, by simp, fun r _ hne => (heap_set hb).2 r hne⟩
theorem MapK.look (h : MapK kv w b f n) (ht : P.underlying t = some (.map kt et)) (K : KeyK P kt kv) {z : Value} (hz : (zeroValue et).run P w = .ok z w) (k : κ) :
    (Instr.lookup t (.map (some b)) (kv k) false).run P w = .ok ((f k).getD z) w := by
  obtain ⟨es, c, hb, hs, -, hi, hf⟩ := h
  have hc := K.check w es.isEmpty k
  rcases K.find w k es.toList hi with ⟨hf', h2⟩ | ⟨j, e, hf', h2, h3⟩
  · have hn : f k = none := MapK.none_of hf h2
    simp [Instr.lookup, run_underlying ht, MapKept.run_getObj_map hb, Result.andThen]
    rw [hc]
    simp [hf', hz, hn]
  · have hn : f k = some e.val := (hf k e.val).2 ⟨e, List.mem_of_getElem? h2, h3, rfl⟩
    simp [Instr.lookup, run_underlying ht, MapKept.run_getObj_map hb, Result.andThen]
    rw [hc]
    simp [hf', hn]
theorem MapK.update [DecidableEq κ] (h : MapK kv w b f n) (ht : P.underlying t = some (.map kt et)) (K : KeyK P kt kv) (k : κ) (v : Value) :
    ∃ w', (Instr.mapUpdate t (.map (some b)) (kv k) v).run P w = .ok () w' ∧ MapK kv w' b (kput f k v) (n + 1) ∧ ((f k).isSome → MapK kv w' b (kput f k v) n) ∧ Mod (fun r => r = b) w w' ∧ w'.heap.size = w.heap.size := by
  obtain ⟨es, c, hb, hs, hn, hi, hf⟩ := h
  have hc := K.check w false k
  rcases K.find w k es.toList hi with ⟨hf', h2⟩ | ⟨j, e, hf', h2, h3⟩
  · have hfk : f k = none := MapK.none_of hf h2
    refine ⟨_, ?_, MapK.pushed hb hs hn hi hf K.inj k v h2, fun hs => by simp [hfk] at hs, MapK.mod_set hb _, by simp⟩
    simp [Instr.mapUpdate, run_underlying ht, MapKept.run_getObj_map hb, hc, hf', MapKept.run_setObj_map _ hb, Result.andThen]
  · have hj : es[j]? = some e := by simpa using h2
    have hM := MapK.modified hb hs hn hi hf K.inj k v hj h3
    refine ⟨_, ?_, hM.mono (Nat.le_succ _), fun _ => hM, MapK.mod_set hb _, by simp⟩
    simp [Instr.mapUpdate, run_underlying ht, MapKept.run_getObj_map hb, hc, hf', hj, h3, K.stays, MapKept.run_setObj_map _ hb, Result.andThen]
theorem MapK.entry [DecidableEq κ] (h : MapK kv w b f n) (ht : P.underlying t = some (.map kt et)) (K : KeyK P kt kv) {z : Value} (hz : ∀ w, (zeroValue et).run P w = .ok z w) (k : κ) :
    ∃ (w' : World) (s : Nat), (Instr.mapEntry t (.map (some b)) (kv k)).run P w = .ok (.tuple #[(f k).getD z, goInt (s : Int)]) w' ∧ MapK kv w' b (kput f k ((f k).getD z)) (n + 1) ∧ ((f k).isSome → MapK kv w' b (kput f k ((f k).getD z)) n) ∧ BornAt kv w' b s k ∧ Mod (fun r => r = b) w w' ∧ w'.heap.size = w.heap.size := by
  obtain ⟨es, c, hb, hs, hn, hi, hf⟩ := h
  have hc := K.check w false k
  rcases K.find w k es.toList hi with ⟨hf', h2⟩ | ⟨j, e, hf', h2, h3⟩
  · have hfk : f k = none := MapK.none_of hf h2
    have hM := MapK.pushed hb hs hn hi hf K.inj k z h2
    refine ⟨_, c, ?_, by rw [hfk]; exact hM, fun hs => by simp [hfk] at hs, ⟨_, _, (heap_set hb).1, _, by simp; exact .inr rfl, rfl, rfl⟩, MapK.mod_set hb _, by simp⟩
    simp [Instr.mapEntry, run_underlying ht, MapKept.run_getObj_map hb, hc, hf', hz, hfk, MapKept.run_setObj_map _ hb, Result.andThen]
  · have hj : es[j]? = some e := by simpa using h2
    have hfk : f k = some e.val := (hf k e.val).2 ⟨e, List.mem_of_getElem? h2, h3, rfl⟩
    have hM := MapK.modified hb hs hn hi hf K.inj k e.val hj h3
    have he : es.modify j (fun e => { e with key := kv k }) = es.modify j (fun x => { x with key := kv k, val := e.val }) := by
      apply Array.ext_getElem?
      intro i
      rw [Array.getElem?_modify, Array.getElem?_modify]
      by_cases hji : j = i
      · subst hji
        simp [hj]
      · simp [hji]
    refine ⟨_, e.born, ?_, by rw [hfk]; exact hM.mono (Nat.le_succ _), fun _ => by rw [hfk]; exact hM, ⟨_, _, (heap_set hb).1, { e with key := kv k, val := e.val }, ?_, rfl, rfl⟩, MapK.mod_set hb _, by simp⟩
    · simp [Instr.mapEntry, run_underlying ht, MapKept.run_getObj_map hb, hc, hf', hj, h3, hfk, K.stays, MapKept.run_setObj_map _ hb, Result.andThen, he]
    · rw [List.mem_iff_getElem?]
      exact ⟨j, by simp [hj]⟩
theorem MapK.store [DecidableEq κ] (h : MapK kv w b f n) (K : KeyK P kt kv) {s : Nat} {k : κ} (hb : BornAt kv w b s k) (v : Value) :
    ∃ w', (Instr.entryStore t (.map (some b)) (goInt (s : Int)) v).run P w = .ok () w' ∧ MapK kv w' b (kput f k v) n ∧ Mod (fun r => r = b) w w' ∧ w'.heap.size = w.heap.size := by
  obtain ⟨es, c, hbk, hs, hn, hi, hf⟩ := h
  obtain ⟨es', c', hb', x, hx, hxs, hxk⟩ := hb
  rw [hbk] at hb'
  simp only [Option.some.injEq, Obj.map.injEq] at hb'
  obtain ⟨rfl, rfl⟩ := hb'
  obtain ⟨i, hi'⟩ := List.mem_iff_getElem?.1 hx
  have hfi : ∃ j e, es.findIdx? (fun e => (e.born : Int) == (s : Int)) = some j ∧ es[j]? = some e ∧ e.born = s := by
    cases hq : es.findIdx? (fun e => (e.born : Int) == (s : Int)) with
    | none =>
      rw [Array.findIdx?_eq_none_iff] at hq
      have := hq x (by simpa using hx)
      simp [hxs] at this
    | some j =>
      rw [Array.findIdx?_eq_some_iff_getElem] at hq
      obtain ⟨hjl, h1, -⟩ := hq
      exact ⟨j, es[j], rfl, Array.getElem?_eq_getElem hjl, by simp at h1; omega⟩
  obtain ⟨j, e, hj1, hj, hes⟩ := hfi
  have hij : j = i := by
    have hnd := hs.2.1
    have hil : i < es.toList.length := (List.getElem?_eq_some_iff.1 hi').1
    have hjl : j < es.toList.length := by simpa using (Array.getElem?_eq_some_iff.1 hj).1
    have ei : es.toList[i] = x := (List.getElem?_eq_some_iff.1 hi').2
    have ej : es.toList[j] = e := by simpa using (Array.getElem?_eq_some_iff.1 hj).2
    have hp := List.pairwise_iff_getElem.1 hnd
    rcases Nat.lt_trichotomy j i with hlt | heq | hlt
    · exact (hp j i (by simpa using hjl) (by simpa using hil) hlt (by simp only [List.getElem_map, ei, ej, hes, hxs])).elim
    · exact heq
    · exact (hp i j (by simpa using hil) (by simpa using hjl) hlt (by simp only [List.getElem_map, ei, ej, hes, hxs])).elim
  subst hij
  have hex : e = x := by
    have h1 : es.toList[j]? = some e := by simpa using hj
    rw [h1] at hi'
    exact Option.some.inj hi'
  subst hex
  have hM := MapK.modified hbk hs hn hi hf K.inj k v hj hxk
  have he : es.modify j (fun e => { e with val := v }) = es.modify j (fun x => { x with key := kv k, val := v }) := by
    apply Array.ext_getElem?
    intro q
    rw [Array.getElem?_modify, Array.getElem?_modify]
    by_cases hjq : j = q
    · subst hjq
      simp [hj, hxk]
    · simp [hjq]
  refine ⟨_, ?_, hM, MapK.mod_set hbk _, by simp⟩
  simp [Instr.entryStore, MapKept.run_getObj_map hbk, goInt, asInt, asIntOf, hj1, MapKept.run_setObj_map _ hbk, Result.andThen, he]
end

section
variable {P : Program} {w : World} {b n : Nat} {f : κ → Option Value} {t kt et : TypeId} {ops : Array Oper} {rest : List Oper} {o : Oper} {a : Act} {Q : Exit → Act → World → Prop}
theorem wpList_lookK (w : World) (hg : o.guard = none) (m x : Operand) (t : TypeId) (hop : o.op = Op.lookup t m x false) (kt et : TypeId) (ht : P.underlying t = some (.map kt et)) (K : KeyK P kt kv) (z : Value)
    (hz : (zeroValue et).run P w = .ok z w) (b n : Nat) (f : κ → Option Value) (hm : a.eval m = .map (some b)) (h : MapK kv w b f n) (k : κ) (hx : a.eval x = kv k) (val : Value) (hv : (f k).getD z = val)
    (hK : wpList P ops Q rest (a.put o.dst val) w) : wpList P ops Q (o :: rest) a w := by
  refine wpList_plain hg fun K' hK' => ?_
  unfold Oper.wp
  simp [execOp, hop, hm, hx, h.look ht K hz k, Result.andThen]
  rw [hv]
  exact hK' _ _ hK
theorem wpList_updK [DecidableEq κ] (w : World) (hg : o.guard = none) (m x v : Operand) (t : TypeId) (hop : o.op = Op.mapUpdate t m x v) (kt et : TypeId) (ht : P.underlying t = some (.map kt et)) (K : KeyK P kt kv)
    (b n : Nat) (f : κ → Option Value) (hm : a.eval m = .map (some b)) (h : MapK kv w b f n) (k : κ) (hx : a.eval x = kv k) (val : Value) (hv : a.eval v = val)
    (hK : ∀ w', MapK kv w' b (kput f k val) (n + 1) → ((f k).isSome → MapK kv w' b (kput f k val) n) → Mod (fun r => r = b) w w' → w'.heap.size = w.heap.size → wpList P ops Q rest (a.put o.dst undef) w') : wpList P ops Q (o :: rest) a w := by
  refine wpList_plain hg fun K' hK' => ?_
  obtain ⟨w', hrun, r1, r2, r3, r4⟩ := h.update ht K k val
  unfold Oper.wp
  simp [execOp, hop, hm, hx, hv, hrun, Result.andThen]
  exact hK' _ _ (hK w' r1 r2 r3 r4)
end
def cntK [DecidableEq κ] (M : List κ) : κ → Option Value := fun y => if M.count y = 0 then none else some (.int .i64 (M.count y : Int))
theorem cntK_getD [DecidableEq κ] (M : List κ) (k : κ) : (cntK M k).getD (.int .i64 0) = .int .i64 (M.count k : Int) := by
  unfold cntK
  by_cases h : M.count k = 0 <;> simp [h]
theorem cntK_step [DecidableEq κ] (M : List κ) (k : κ) (v : Value) : kput (kput (cntK M) k v) k (.int .i64 ((M.count k : Int) + 1)) = cntK (M ++ [k]) := by
  rw [kput_twice]
  funext y
  by_cases h : y = k
  · subst h
    rw [kput_same]
    simp [cntK]
  · rw [kput_other _ _ h]
    simp [cntK, List.count_append, Ne.symm h]
end
end Go.Hg

namespace Go.Hg
open MapKept Go.Maps Go.WideElems
def anyElem (v : Value) : Option (DataW Unit × List MemPlace) := some ((fun _ => .agg []) v, [])
theorem MapI.owns {w : World} {b n : Nat} {f : Int → Option Value} (h : MapI w b f n) {P : Program} {k : TypeId} (hk : P.underlying k = some (.int .i64)) (hn : n ≤ maxLen) (hw : ∀ x, f x ≠ none → (Lit.int .i64 x).wf = true) :
    ∃ D0 : DataW Unit, w.ownsMap P k anyElem b n D0 ∧ Maps.size D0 ≤ n ∧ ∀ ss : List Int, ss.Perm (intKeys D0) → ss.Nodup ∧ ∀ x, x ∈ ss ↔ f x ≠ none := by
  obtain ⟨es, c, hb, hs, hz, hi, hf⟩ := h
  have F : Fit P k anyElem es c := ⟨Nat.le_trans hz hn, hs, fun x hx => by
    obtain ⟨q, hq⟩ := hi x hx
    have hwq := hw q (by rw [(hf q x.val).2 ⟨x, hx, hq, rfl⟩]; simp)
    exact ⟨(.int .i64 q, .agg []), by
      unfold rd
      rw [hq, keyOf_int_mk hk hwq]
      rfl⟩⟩
  have hown : w.ownsMap P k anyElem b n (.map ((es.toList.map (rg P k anyElem)).foldr DataW.insert [])) := ⟨es, c, hb, F, hz, rfl⟩
  refine ⟨_, hown, hown.size_le, fun ss hp => ?_⟩
  let L : List Int := es.toList.map fun x => match x.key with | .int _ a => a | _ => 0
  have hL : ∀ x, x ∈ L ↔ f x ≠ none := by
    intro x
    constructor
    · intro hx
      obtain ⟨e, he, rfl⟩ := List.mem_map.1 hx
      obtain ⟨q, hq⟩ := hi e he
      rw [hq]
      rw [(hf q e.val).2 ⟨e, he, hq, rfl⟩]
      simp
    · intro hx
      cases hfx : f x with
      | none => exact absurd hfx hx
      | some v =>
        obtain ⟨e, he, hq, -⟩ := (hf x v).1 hfx
        exact List.mem_map.2 ⟨e, he, by rw [hq]⟩
  have hnd : L.Nodup := by
    have h3 := hs.2.2
    refine List.pairwise_map.2 ?_
    refine (List.pairwise_map.1 h3).imp_of_mem ?_
    intro a e ha he hne hx
    obtain ⟨q, hq⟩ := hi a ha
    obtain ⟨q', hq'⟩ := hi e he
    rw [hq, hq'] at hx
    simp only at hx
    exact hne (by rw [hq, hq', hx])
  have key : L.Perm (intKeys (.map ((es.toList.map (rg P k anyElem)).foldr DataW.insert []))) := by
    have hperm : ∀ l : List (Lit × DataW Unit), (l.foldr DataW.insert []).Perm l := by
      intro l
      induction l with
      | nil => exact List.Perm.nil
      | cons a t ih =>
        have hin : ∀ (x : Lit × DataW Unit) (m : List (Lit × DataW Unit)), (DataW.insert x m).Perm (x :: m) := by
          intro x m
          induction m with
          | nil => exact List.Perm.refl _
          | cons y r ihr =>
            unfold DataW.insert
            split
            · exact List.Perm.refl _
            · exact (ihr.cons y).trans (List.Perm.swap x y r)
        exact (hin a _).trans (ih.cons a)
    have h1 := ((hperm (es.toList.map (rg P k anyElem))).map fun p => intOf p.1).symm
    refine List.Perm.trans (List.Perm.of_eq ?_) h1
    rw [List.map_map]
    refine List.map_congr_left fun x hx => ?_
    obtain ⟨q, hq⟩ := hi x hx
    obtain ⟨y, hy⟩ := F.reads x hx
    have h2 := rd_key hy
    rw [hq, keyOf_int_mk hk (hw q (by rw [(hf q x.val).2 ⟨x, hx, hq, rfl⟩]; simp))] at h2
    simp only [Function.comp, rg_of hy, ← Option.some.inj h2, hq, intOf]
  have hpl := hp.trans key.symm
  exact ⟨hpl.nodup_iff.2 hnd, fun x => (hpl.mem_iff).trans (hL x)⟩
theorem rset_sorted {ss : List Int} {p : Int → Prop} (hn : ss.Nodup) (hm : ∀ x, x ∈ ss ↔ p x) : RSet (ss.mergeSort fun x y => decide (x ≤ y)) p := by
  have hp := List.mergeSort_perm ss (fun x y => decide (x ≤ y))
  refine ⟨?_, fun y => hp.mem_iff.trans (hm y)⟩
  have h1 : (ss.mergeSort fun x y => decide (x ≤ y)).Pairwise fun a b => decide (a ≤ b) = true := List.pairwise_mergeSort (fun a b c h1 h2 => by simp only [decide_eq_true_eq] at *; omega) (fun a b => by simp only [Bool.or_eq_true, decide_eq_true_eq]; omega) ss
  have h2 : (ss.mergeSort fun x y => decide (x ≤ y)).Nodup := hp.nodup_iff.2 hn
  refine (h1.and h2).imp fun {a b} h => ?_
  have h3 := h.1
  have h4 := h.2
  simp only [decide_eq_true_eq] at h3
  omega
end Go.Hg

namespace Go.Hg

def BrkR (nodes : List PNode) (edges : List PEdge) (r : PRule) (l : List Int) : Prop :=
  if r.kind = 1 then l = (nodes.filter (doubR nodes r)).map (·.id)
  else if r.kind = 2 then l = (nodes.filter (lacksR r)).map (·.id)
  else if r.kind = 3 then l = (edges.filter (wrongR nodes r)).map (·.id)
  else RSet l fun x => r.n < (outR edges r x : Int)
def BrokenR (nodes : List PNode) (edges : List PEdge) (r : PRule) (l : List Int) : Prop := (formR r = false → l = []) ∧ (formR r = true → BrkR nodes edges r l)
theorem BrokenR.uniq {nodes : List PNode} {edges : List PEdge} {r : PRule} {l l' : List Int} (h : BrokenR nodes edges r l) (h' : BrokenR nodes edges r l') : l = l' := by
  cases hf : formR r with
  | false => rw [h.1 hf, h'.1 hf]
  | true =>
    have h1 := h.2 hf
    have h2 := h'.2 hf
    unfold BrkR at h1 h2
    by_cases k1 : r.kind = 1
    · rw [if_pos k1] at h1 h2; rw [h1, h2]
    · rw [if_neg k1] at h1 h2
      by_cases k2 : r.kind = 2
      · rw [if_pos k2] at h1 h2; rw [h1, h2]
      · rw [if_neg k2] at h1 h2
        by_cases k3 : r.kind = 3
        · rw [if_pos k3] at h1 h2; rw [h1, h2]
        · rw [if_neg k3] at h1 h2
          exact h1.uniq h2 fun _ => Iff.rfl
theorem BrokenR.nodup {nodes : List PNode} {edges : List PEdge} {r : PRule} {l : List Int} (h : BrokenR nodes edges r l) (hn : (nodes.map (·.id)).Pairwise (· < ·)) (he : (edges.map (·.id)).Pairwise (· < ·)) : l.Pairwise (· < ·) := by
  cases hf : formR r with
  | false => rw [h.1 hf]; exact .nil
  | true =>
    have h1 := h.2 hf
    unfold BrkR at h1
    by_cases k1 : r.kind = 1
    · rw [if_pos k1] at h1; rw [h1]; exact hn.sublist (map_sub _ _ _)
    · rw [if_neg k1] at h1
      by_cases k2 : r.kind = 2
      · rw [if_pos k2] at h1; rw [h1]; exact hn.sublist (map_sub _ _ _)
      · rw [if_neg k2] at h1
        by_cases k3 : r.kind = 3
        · rw [if_pos k3] at h1; rw [h1]; exact he.sublist (map_sub _ _ _)
        · rw [if_neg k3] at h1; exact h1.1
end Go.Hg

namespace Go.Hg
open Go.RowKit Go.Proofs MapKept Go.Maps

theorem cntK_step1 (M : List Int) (k : Int) : kput (cntK M) k (.int .i64 ((M.count k : Int) + 1)) = cntK (M ++ [k]) := by
  rw [← cntK_step M k (.bool true), kput_twice]
theorem zeroIntV (w : World) : (zeroValue 3).run Tryz.prog w = .ok (.int .i64 0) w := by kernel_rfl

end Go.Hg

namespace Go.Hg
open MapKept
section
variable {κ : Type} {kv : κ → Value} {P : Program} {w : World} {b n : Nat} {f : κ → Option Value} {t kt et : TypeId} {ops : Array Oper} {o : Oper} {a : Act} {KK : Act → World → Prop} {Q : Exit → Act → World → Prop} {E : Prop}
theorem step_lookK (hg : o.guard = none) (m x : Operand) (t : TypeId) (hop : o.op = Op.lookup t m x false) (kt et : TypeId) (ht : P.underlying t = some (.map kt et)) (K : KeyK P kt kv) (z : Value) (hz : (zeroValue et).run P w = .ok z w) (hm : a.eval m = .map (some b)) (h : MapK kv w b f n) (k : κ) (hx : a.eval x = kv k) (val : Value) (hv : (f k).getD z = val)
    (hK : KK (a.put o.dst val) w) : if Region.wanted o (yielded ops a.tmps) = true then Oper.wp P o a w KK Q else E := by
  have hw : Region.wanted o (yielded ops a.tmps) = true := by simp [Region.wanted, hg]
  rw [if_pos hw]
  unfold Oper.wp
  simp [execOp, hop, hm, hx, h.look ht K hz k, Result.andThen, hv]
  exact hK
theorem step_entryK [DecidableEq κ] (hg : o.guard = none) (m x : Operand) (t : TypeId) (hop : o.op = Op.mapEntry t m x) (kt et : TypeId) (ht : P.underlying t = some (.map kt et)) (K : KeyK P kt kv) (z : Value) (hz : ∀ w, (zeroValue et).run P w = .ok z w) (hm : a.eval m = .map (some b)) (h : MapK kv w b f n) (k : κ) (hx : a.eval x = kv k) (val : Value) (hv : (f k).getD z = val)
    (hK : ∀ (w' : World) (s : Nat), MapK kv w' b (kput f k val) (n + 1) → BornAt kv w' b s k → Mod (fun r => r = b) w w' → w'.heap.size = w.heap.size → KK (a.put o.dst (.tuple #[val, .int .i64 (s : Int)])) w') : if Region.wanted o (yielded ops a.tmps) = true then Oper.wp P o a w KK Q else E := by
  have hw : Region.wanted o (yielded ops a.tmps) = true := by simp [Region.wanted, hg]
  rw [if_pos hw]
  obtain ⟨w', s, hrun, r1, -, r3, r4, r5⟩ := h.entry ht K hz k
  subst hv
  unfold Oper.wp
  simp [execOp, hop, hm, hx, hrun, Result.andThen]
  exact hK w' s r1 r3 r4 r5
theorem step_storeK [DecidableEq κ] (hg : o.guard = none) (m st x : Operand) (t : TypeId) (hop : o.op = Op.entryStore t m st x) (kt : TypeId) (K : KeyK P kt kv) (hm : a.eval m = .map (some b)) (h : MapK kv w b f n) (k : κ) (s : Nat) (hs : a.eval st = .int .i64 (s : Int)) (hb : BornAt kv w b s k) (val : Value) (hx : a.eval x = val)
    (hK : ∀ (w' : World), MapK kv w' b (kput f k val) n → Mod (fun r => r = b) w w' → w'.heap.size = w.heap.size → KK (a.put o.dst undef) w') : if Region.wanted o (yielded ops a.tmps) = true then Oper.wp P o a w KK Q else E := by
  have hw : Region.wanted o (yielded ops a.tmps) = true := by simp [Region.wanted, hg]
  rw [if_pos hw]
  obtain ⟨w', hrun, r1, r2, r3⟩ := h.store (t := t) K hb val
  have hs' : a.eval st = goInt (s : Int) := hs
  unfold Oper.wp
  simp [execOp, hop, hm, hs', hx, hrun, Result.andThen]
  exact hK w' r1 r2 r3
end
end Go.Hg

namespace Go.Hg
open MapKept

def PlainT (P : Program) (t : TypeId) (x : Value) : Prop := (∃ n, x = .int .i64 n ∧ P.underlying t = some (.int .i64)) ∨ ∃ s, x = .string s ∧ P.underlying t = some .string
def plainEq : Value → Value → Bool
  | .int .i64 a, .int .i64 b => a == b
  | .string a, .string b => a == b
  | _, _ => false
section
variable {P : Program} {t : TypeId}
theorem run_plainEq {x y : Value} (hx : PlainT P t x) (hy : PlainT P t y) (d : Nat) (w : World) : (Op.equalIn (d + 1) t x y).run P w = .ok (plainEq x y) w := by
  rcases hx with ⟨a, rfl, hx⟩ | ⟨a, rfl, hx⟩ <;> rcases hy with ⟨b, rfl, hy⟩ | ⟨b, rfl, hy⟩
  · simp [Op.equalIn, run_underlying hx, plainEq, Result.andThen]
  · rw [hx] at hy; cases hy
  · rw [hx] at hy; cases hy
  · simp [Op.equalIn, run_underlying hx, plainEq, Result.andThen]
theorem plainEq_iff {x y : Value} (hx : PlainT P t x) (hy : PlainT P t y) : plainEq x y = true ↔ x = y := by
  rcases hx with ⟨a, rfl, hx⟩ | ⟨a, rfl, hx⟩ <;> rcases hy with ⟨b, rfl, hy⟩ | ⟨b, rfl, hy⟩
  · simp [plainEq]
  · rw [hx] at hy; cases hy
  · rw [hx] at hy; cases hy
  · simp only [plainEq, Value.string.injEq]
    exact bytes_beq a b
theorem run_partP {x : Value} (hx : PlainT P t x) {cs : Array Value} {o : Nat} (ho : cs[o]? = some x) (w : World) : (part t cs o).run P w = .ok x w := by
  rcases hx with ⟨a, rfl, hx⟩ | ⟨a, rfl, hx⟩ <;> simp [part, isAgg, run_underlying hx, ho, Result.andThen]
theorem run_checkP {x : Value} (hx : PlainT P t x) (d : Nat) (e : Bool) (w : World) : (Instr.checkKey e (d + 1) t x).run P w = .ok () w := by
  rcases hx with ⟨a, rfl, hx⟩ | ⟨a, rfl, hx⟩
  · exact MapKept.run_checkKey hx (by simp [IsKey]) e d
  · exact MapKept.run_checkKey hx (by simp [IsKey]) e d
variable {f0 f1 f2 : Field} {x0 x1 x2 y0 y1 y2 : Value}
theorem run_equal3 (hu : P.underlying t = some (.struct #[f0, f1, f2])) (hs : P.stoodInHeld t = false) (n0 : f0.name ≠ "_") (n1 : f1.name ≠ "_") (n2 : f2.name ≠ "_") (o0 : f0.offset = 0) (o1 : f1.offset = 1) (o2 : f2.offset = 2)
    (hx0 : PlainT P f0.type x0) (hx1 : PlainT P f1.type x1) (hx2 : PlainT P f2.type x2) (hy0 : PlainT P f0.type y0) (hy1 : PlainT P f1.type y1) (hy2 : PlainT P f2.type y2) (w : World) :
    (Op.equal t (.agg #[x0, x1, x2]) (.agg #[y0, y1, y2])).run P w = .ok (plainEq x0 y0 && (plainEq x1 y1 && plainEq x2 y2)) w := by
  have p0 := run_partP (P := P) hx0 (cs := #[x0, x1, x2]) (o := 0) rfl
  have p1 := run_partP (P := P) hx1 (cs := #[x0, x1, x2]) (o := 1) rfl
  have p2 := run_partP (P := P) hx2 (cs := #[x0, x1, x2]) (o := 2) rfl
  have q0 := run_partP (P := P) hy0 (cs := #[y0, y1, y2]) (o := 0) rfl
  have q1 := run_partP (P := P) hy1 (cs := #[y0, y1, y2]) (o := 1) rfl
  have q2 := run_partP (P := P) hy2 (cs := #[y0, y1, y2]) (o := 2) rfl
  have e0 := fun w => run_plainEq hx0 hy0 9998 w
  have e1 := fun w => run_plainEq hx1 hy1 9998 w
  have e2 := fun w => run_plainEq hx2 hy2 9998 w
  unfold Op.equal Op.maxDepth Op.equalIn
  simp only [Sem.run_bind, run_underlying hu, Result.andThen_ok]
  have hp : ∀ w, (program : Sem Program).run P w = .ok P w := fun w => rfl
  cases h0 : plainEq x0 y0 <;> cases h1 : plainEq x1 y1 <;> cases h2 : plainEq x2 y2 <;>
    simp [hp, hs, n0, n1, n2, o0, o1, o2, p0, p1, p2, q0, q1, q2, e0, e1, e2, h0, h1, h2, Result.andThen, Sem.run_bind]
theorem run_check3 (hu : P.underlying t = some (.struct #[f0, f1, f2])) (n0 : f0.name ≠ "_") (n1 : f1.name ≠ "_") (n2 : f2.name ≠ "_") (o0 : f0.offset = 0) (o1 : f1.offset = 1) (o2 : f2.offset = 2)
    (hx0 : PlainT P f0.type x0) (hx1 : PlainT P f1.type x1) (hx2 : PlainT P f2.type x2) (e : Bool) (w : World) : (Instr.checkKey e 10000 t (.agg #[x0, x1, x2])).run P w = .ok () w := by
  have p0 := run_partP (P := P) hx0 (cs := #[x0, x1, x2]) (o := 0) rfl
  have p1 := run_partP (P := P) hx1 (cs := #[x0, x1, x2]) (o := 1) rfl
  have p2 := run_partP (P := P) hx2 (cs := #[x0, x1, x2]) (o := 2) rfl
  have e0 := fun w => run_checkP hx0 9998 e w
  have e1 := fun w => run_checkP hx1 9998 e w
  have e2 := fun w => run_checkP hx2 9998 e w
  unfold Instr.checkKey
  simp only [Sem.run_bind, run_underlying hu, Result.andThen_ok]
  simp [n0, n1, n2, o0, o1, o2, p0, p1, p2, e0, e1, e2, Result.andThen, Sem.run_bind]
theorem findAsking3 {κ : Type} {c0 c1 c2 : κ → Value} (hu : P.underlying t = some (.struct #[f0, f1, f2])) (hs : P.stoodInHeld t = false) (n0 : f0.name ≠ "_") (n1 : f1.name ≠ "_") (n2 : f2.name ≠ "_") (o0 : f0.offset = 0) (o1 : f1.offset = 1) (o2 : f2.offset = 2)
    (h0 : ∀ k, PlainT P f0.type (c0 k)) (h1 : ∀ k, PlainT P f1.type (c1 k)) (h2 : ∀ k, PlainT P f2.type (c2 k)) (w : World) (k : κ) : ∀ (es : List MapEntry) (i : Nat), (∀ x ∈ es, ∃ q, x.key = .agg #[c0 q, c1 q, c2 q]) →
    ((Instr.findAsking t (.agg #[c0 k, c1 k, c2 k]) es i).run P w = .ok none w ∧ ∀ x ∈ es, x.key ≠ .agg #[c0 k, c1 k, c2 k]) ∨
    ∃ j e, (Instr.findAsking t (.agg #[c0 k, c1 k, c2 k]) es i).run P w = .ok (some (i + j, e.val)) w ∧ es[j]? = some e ∧ e.key = .agg #[c0 k, c1 k, c2 k]
  | [], i, _ => .inl ⟨by simp [Instr.findAsking], by simp⟩
  | e :: es, i, hall => by
    obtain ⟨q, hq⟩ := hall e (.head _)
    have hr := run_equal3 hu hs n0 n1 n2 o0 o1 o2 (h0 k) (h1 k) (h2 k) (h0 q) (h1 q) (h2 q) w
    cases hb : (plainEq (c0 k) (c0 q) && (plainEq (c1 k) (c1 q) && plainEq (c2 k) (c2 q)))
    · have hne : e.key ≠ .agg #[c0 k, c1 k, c2 k] := by
        rw [hq]
        intro he
        simp only [Value.agg.injEq] at he
        have e0 : c0 q = c0 k := by have := congrArg (fun a : Array Value => a[0]?) he; simpa using this
        have e1 : c1 q = c1 k := by have := congrArg (fun a : Array Value => a[1]?) he; simpa using this
        have e2 : c2 q = c2 k := by have := congrArg (fun a : Array Value => a[2]?) he; simpa using this
        rw [(plainEq_iff (h0 k) (h0 q)).2 e0.symm, (plainEq_iff (h1 k) (h1 q)).2 e1.symm, (plainEq_iff (h2 k) (h2 q)).2 e2.symm] at hb
        cases hb
      rw [hb] at hr
      rcases findAsking3 hu hs n0 n1 n2 o0 o1 o2 h0 h1 h2 w k es (i + 1) (fun x hx => hall x (.tail _ hx)) with ⟨g1, g2⟩ | ⟨j, e', g1, g2, g3⟩
      · refine .inl ⟨by simp [Instr.findAsking, hq, hr, g1, Result.andThen], fun x hx => ?_⟩
        rcases List.mem_cons.1 hx with rfl | hx
        · exact hne
        · exact g2 x hx
      · exact .inr ⟨j + 1, e', by simp [Instr.findAsking, hq, hr, g1, Result.andThen, Nat.add_assoc, Nat.add_comm 1 j], by simpa using g2, g3⟩
    · rw [hb] at hr
      rw [Bool.and_eq_true, Bool.and_eq_true] at hb
      have e0 := (plainEq_iff (h0 k) (h0 q)).1 hb.1
      have e1 := (plainEq_iff (h1 k) (h1 q)).1 hb.2.1
      have e2 := (plainEq_iff (h2 k) (h2 q)).1 hb.2.2
      exact .inr ⟨0, e, by simp [Instr.findAsking, hq, hr, Result.andThen], rfl, by rw [hq, e0, e1, e2]⟩
theorem keyK_struct3 {κ : Type} {c0 c1 c2 : κ → Value} (hu : P.underlying t = some (.struct #[f0, f1, f2])) (hs : P.stoodInHeld t = false) (n0 : f0.name ≠ "_") (n1 : f1.name ≠ "_") (n2 : f2.name ≠ "_") (o0 : f0.offset = 0) (o1 : f1.offset = 1) (o2 : f2.offset = 2)
    (h0 : ∀ k, PlainT P f0.type (c0 k)) (h1 : ∀ k, PlainT P f1.type (c1 k)) (h2 : ∀ k, PlainT P f2.type (c2 k)) (inj : ∀ {a b}, c0 a = c0 b → c1 a = c1 b → c2 a = c2 b → a = b) : KeyK P t (fun k : κ => .agg #[c0 k, c1 k, c2 k]) where
  inj he := by
    simp only [Value.agg.injEq] at he
    refine inj ?_ ?_ ?_
    · have := congrArg (fun a : Array Value => a[0]?) he; simpa using this
    · have := congrArg (fun a : Array Value => a[1]?) he; simpa using this
    · have := congrArg (fun a : Array Value => a[2]?) he; simpa using this
  check w e k := run_check3 hu n0 n1 n2 o0 o1 o2 (h0 k) (h1 k) (h2 k) e w
  find w k es hes := by
    have hn : es = [] ∨ Instr.findNow (.struct #[f0, f1, f2]) (.agg #[c0 k, c1 k, c2 k]) es 0 = none := by
      cases es with
      | nil => exact .inl rfl
      | cons e t => exact .inr (by simp [Instr.findNow, Instr.sameNow])
    rcases hn with rfl | hn
    · exact .inl ⟨by simp [Instr.findKey, run_underlying hu, Instr.findNow, Result.andThen], by simp⟩
    · have hf : (Instr.findKey t (.agg #[c0 k, c1 k, c2 k]) es).run P w = (Instr.findAsking t (.agg #[c0 k, c1 k, c2 k]) es 0).run P w := by
        simp [Instr.findKey, run_underlying hu, hn, Result.andThen]
      rw [hf]
      rcases findAsking3 hu hs n0 n1 n2 o0 o1 o2 h0 h1 h2 w k es 0 hes with h | ⟨j, e, g1, g2, g3⟩
      · exact .inl h
      · exact .inr ⟨j, e, by simpa using g1, g2, g3⟩
  stays w k := by
    have hb : ∀ (m : Nat) (f : Field) (x : Value), PlainT P f.type x → Instr.sameBits m x x = true := by
      intro m f x hx
      rcases hx with ⟨a, rfl, -⟩ | ⟨a, rfl, -⟩
      · simp [Instr.sameBits]
      · simp only [Instr.sameBits]
        exact (bytes_beq a a).2 rfl
    have h : Instr.sameBits 10000 (.agg #[c0 k, c1 k, c2 k]) (.agg #[c0 k, c1 k, c2 k]) = true := by
      simp [Instr.sameBits, hb 9999 f0 _ (h0 k), hb 9999 f1 _ (h1 k), hb 9999 f2 _ (h2 k)]
    simp [Instr.keyThatStays, h]
end
end Go.Hg

namespace Go.Hg
open Go.RowKit Go.Proofs

def GAt (gv : Value) (N : List PNode) (E : List PEdge) (w : World) : Prop := ∀ w', Grow w w' →
  (Calls Tryz.prog 20 #[gv] w' fun e w2 => ∃ v, e = .returned v ∧ NodesR (fun b => w'.heap.size ≤ b) w2 v N ∧ Grow w' w2) ∧
  (Calls Tryz.prog 21 #[gv] w' fun e w2 => ∃ v, e = .returned v ∧ EdgesR (fun b => w'.heap.size ≤ b) w2 v E ∧ Grow w' w2)
theorem GAt.grow {gv : Value} {N : List PNode} {E : List PEdge} {w w1 : World} (h : GAt gv N E w) (g : Grow w w1) : GAt gv N E w1 := fun w' g' => h w' (g.step g')
end Go.Hg
