/- hedgerowlaw17.wakes: true. No condition. -/
import Derived.Test.YtcokiflkjnekeaaGreatLawA
namespace Go.Hg
open Go.RowKit Go.Proofs

/-- Do at a graph that was made behind W0 -/
theorem doOwn (SC : Nat → Prop) (B : Nat) (G : PGraph) (nv ev rv iv : Value) (c : PCat) (o : POp) (W0 w : World) (hg : Grow W0 w) (h : GraphOk 68 (fun b => W0.heap.size ≤ b) w B G) (hG : GInv G) (hc : CatR SC w nv ev rv iv c) :
    Calls Tryz.prog 11 #[.pointer (some ⟨B, 0, none⟩), c.arg nv ev rv iv, o.args] w fun e w' =>
      e = .returned (.tuple #[.int .i64 (if mayG c o G = 0 then idG o G else 0), .int .i64 (mayG c o G)]) ∧ GraphOk 68 (fun b => W0.heap.size ≤ b) w' B (stepG c o G) ∧ Grow W0 w' :=
  (graphDo _ SC B G nv ev rv iv c o w h hG hc).mono fun _ _ ⟨h1, h2, h3⟩ => ⟨h1, h2.sub (fun _ hb => hb.elim id (fun h => Nat.le_trans hg.size h)), hg.modd h3 (fun _ hb => hb)⟩

def sName : ByteArray := ⟨#[110, 97, 109, 101]⟩
def sA : ByteArray := ⟨#[97]⟩
def wo1 : POp := ⟨1, 0, sCity, 0, 0, ByteArray.empty, ⟨0, 0, ByteArray.empty⟩, false⟩
def wo2 : POp := ⟨3, 0, sRoad, 1, 1, ByteArray.empty, ⟨0, 0, ByteArray.empty⟩, false⟩
def wo3 : POp := ⟨2, 1, ByteArray.empty, 0, 0, ByteArray.empty, ⟨0, 0, ByteArray.empty⟩, false⟩
def wo4 : POp := ⟨5, 1, ByteArray.empty, 0, 0, sName, ⟨3, 0, sA⟩, false⟩
def wG1 : PGraph := ⟨[⟨1, sCity, []⟩], [], 2⟩
def wG2 : PGraph := ⟨[⟨1, sCity, []⟩], [⟨2, sRoad, 1, 1, []⟩], 3⟩
def wG4 : PGraph := ⟨[⟨1, sCity, [⟨sName, ⟨3, 0, sA⟩⟩]⟩], [⟨2, sRoad, 1, 1, []⟩], 3⟩
theorem wm1 : mayG typesC wo1 PGraph.empty = 0 := by decide
theorem wg1 : stepG typesC wo1 PGraph.empty = wG1 := by decide
theorem wm2 : mayG typesC wo2 wG1 = 0 := by decide
theorem wg2 : stepG typesC wo2 wG1 = wG2 := by decide
theorem wm3 : mayG typesC wo3 wG2 = 160 := by decide
theorem wg3 : stepG typesC wo3 wG2 = wG2 := by decide
theorem wm4 : mayG typesC wo4 wG2 = 0 := by decide
theorem wg4 : stepG typesC wo4 wG2 = wG4 := by decide
theorem wi1 : GInv wG1 := wg1 ▸ GInv.empty.stepG
theorem wi2 : GInv wG2 := wg2 ▸ wi1.stepG
theorem wi4 : GInv wG4 := wg4 ▸ wi2.stepG

set_option maxRecDepth 100000 in
set_option maxHeartbeats 4000000 in
theorem lawWakes (w : World) : Calls Tryz.prog 6 #[] w fun e w' => e = .returned (.bool true) ∧ Grow w w' := by
  go_enter Tryz.func6, Tryz.ntmps6
  go_wp2_with fail
  refine (graphNew _).mono ?_
  rintro e w1 ⟨B, rfl, hgr, hg⟩
  have HGR := Lib.hid hgr; have HG := Lib.hid hg
  clear hgr hg
  go_wp2_with fail
  refine (lawTypes _).mono ?_
  rintro e w2 ⟨nv, ev, rfl, hc, hg⟩
  have HC := Lib.hid hc; have HGR2 := Lib.hid (HGR.out.grow hg); have HG2 := Lib.hid (HG.out.step hg)
  obtain ⟨na, nc, ea, ec, ra, rc, ia, ic, rfl, rfl, hr, hi⟩ := hc.slices
  clear hc hg HGR HG hr hi
  go_wp2_with fail
  refine (doOwn _ B PGraph.empty _ _ _ _ typesC wo1 w _ HG2.out HGR2.out GInv.empty HC.out).mono ?_
  rintro e w3 ⟨rfl, hgr, hg⟩
  rw [wm1]
  have HGR := Lib.hid (show GraphOk 68 (fun b => w.heap.size ≤ b) w3 B wG1 from wg1 ▸ hgr)
  have HG := Lib.hid hg
  clear hgr hg HGR2 HG2 HC
  go_wp2_with fail
  refine (lawTypes _).mono ?_
  rintro e w2 ⟨nv, ev, rfl, hc, hg⟩
  have HC := Lib.hid hc; have HGR2 := Lib.hid (HGR.out.grow hg); have HG2 := Lib.hid (HG.out.step hg)
  obtain ⟨na, nc, ea, ec, ra, rc, ia, ic, rfl, rfl, hr, hi⟩ := hc.slices
  clear hc hg HGR HG hr hi
  go_wp2_with fail
  refine (doOwn _ B wG1 _ _ _ _ typesC wo2 w _ HG2.out HGR2.out wi1 HC.out).mono ?_
  rintro e w3 ⟨rfl, hgr, hg⟩
  rw [wm2]
  have HGR := Lib.hid (show GraphOk 68 (fun b => w.heap.size ≤ b) w3 B wG2 from wg2 ▸ hgr)
  have HG := Lib.hid hg
  clear hgr hg HGR2 HG2 HC
  go_wp2_with fail
  refine (lawTypes _).mono ?_
  rintro e w2 ⟨nv, ev, rfl, hc, hg⟩
  have HC := Lib.hid hc; have HGR2 := Lib.hid (HGR.out.grow hg); have HG2 := Lib.hid (HG.out.step hg)
  obtain ⟨na, nc, ea, ec, ra, rc, ia, ic, rfl, rfl, hr, hi⟩ := hc.slices
  clear hc hg HGR HG hr hi
  go_wp2_with fail
  refine (doOwn _ B wG2 _ _ _ _ typesC wo3 w _ HG2.out HGR2.out wi2 HC.out).mono ?_
  rintro e w3 ⟨rfl, hgr, hg⟩
  rw [wm3]
  have HGR := Lib.hid (show GraphOk 68 (fun b => w.heap.size ≤ b) w3 B wG2 from wg3 ▸ hgr)
  have HG := Lib.hid hg
  clear hgr hg HGR2 HG2 HC
  go_wp2_with fail
  refine (lawTypes _).mono ?_
  rintro e w2 ⟨nv, ev, rfl, hc, hg⟩
  have HC := Lib.hid hc; have HGR2 := Lib.hid (HGR.out.grow hg); have HG2 := Lib.hid (HG.out.step hg)
  obtain ⟨na, nc, ea, ec, ra, rc, ia, ic, rfl, rfl, hr, hi⟩ := hc.slices
  clear hc hg HGR HG hr hi
  go_wp2_with fail
  refine (doOwn _ B wG2 _ _ _ _ typesC wo4 w _ HG2.out HGR2.out wi2 HC.out).mono ?_
  rintro e w3 ⟨rfl, hgr, hg⟩
  rw [wm4]
  have HGR := Lib.hid (show GraphOk 68 (fun b => w.heap.size ≤ b) w3 B wG4 from wg4 ▸ hgr)
  have HG := Lib.hid hg
  clear hgr hg HGR2 HG2 HC
  go_wp2_with fail
  refine (graphGetNode _ B wG4 1 _ HGR.out.rd wi4.nodes (by decide) (by decide)).mono ?_
  rintro e w4 ⟨hx, hg⟩
  rcases hx with ⟨hx, -⟩ | ⟨x, pv, hx, rfl, hp⟩
  · exact absurd hx (by decide)
  obtain rfl : x = ⟨1, sCity, [⟨sName, ⟨3, 0, sA⟩⟩]⟩ := by
    have e : (wG4.nodes.find? fun x => decide (x.id = 1)) = some ⟨1, sCity, [⟨sName, ⟨3, 0, sA⟩⟩]⟩ := by decide
    rw [e] at hx; simpa using hx.symm
  obtain ⟨pa, pc, rfl⟩ := hp.isSlice
  have HGR4 := Lib.hid (HGR.out.grow hg); have HG4 := Lib.hid (HG.out.step hg)
  clear hg hx hp HGR HG
  have HW := Lib.hid (show ∀ o1, Grow w4 (w4.alloc o1) from fun o1 => (Grow.rfl' w4).allocd o1)
  go_wp2_with fail
  refine (graphOut _ B wG4 1 sRoad _ (HGR4.out.rd.grow (HW.out _)) (by decide)).mono ?_
  rintro e w5 ⟨v5, ob5, rfl, ho5, -, hg5⟩
  have hl5 : (someE wG4.edges sRoad fun x => decide (x.from_ = 1)).length = 1 := by decide
  obtain ⟨o5, c5, rfl, -, -⟩ := ho5.isSlice
  rw [hl5]
  have HGR5 := Lib.hid ((HGR4.out.grow (HW.out _)).grow hg5); have HG5 := Lib.hid ((HG4.out.step (HW.out _)).step hg5)
  clear ho5 hg5 hl5
  go_wp2_with fail
  refine (graphNext _ B wG4 _ HGR5.out).mono ?_
  rintro e w6 ⟨rfl, rfl⟩
  have hn : wG4.next = 3 := rfl
  go_wp2
  go_ret
  exact ⟨rfl, HG5.out⟩
end Go.Hg
