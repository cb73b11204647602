/- Two graphs side by side, the program's and the reference's; hedgerowlaw17.Same of equal ones. No condition but a graph's own. -/
import Derived.Test.YtcokiflkjnekeaaGreatRefDo
import Derived.Test.YtcokiflkjnekeaaGreatScan
import Derived.Test.YtcokiflkjnekeaaGreatKeepB
namespace Go.Hg
open Go.RowKit Go.Proofs

/-- two graphs that lie apart, both of memory that is newer than w1's -/
def Pair (T1 T2 : TypeId) (w1 w : World) (B1 B2 : Nat) (G1 G2 : PGraph) : Prop :=
  ∃ S1 S2 : Nat → Prop, GraphOk T1 S1 w B1 G1 ∧ GraphOk T2 S2 w B2 G2 ∧ (∀ b, S1 b → ¬ S2 b) ∧ (∀ b, S1 b → w1.heap.size ≤ b ∧ b < w.heap.size) ∧ (∀ b, S2 b → w1.heap.size ≤ b ∧ b < w.heap.size) ∧ Grow w1 w
theorem Pair.grow {T1 T2 : TypeId} {w1 w w' : World} {B1 B2 : Nat} {G1 G2 : PGraph} (h : Pair T1 T2 w1 w B1 B2 G1 G2) (g : Grow w w') : Pair T1 T2 w1 w' B1 B2 G1 G2 := by
  obtain ⟨S1, S2, h1, h2, h3, h4, h5, h6⟩ := h
  exact ⟨S1, S2, h1.grow g, h2.grow g, h3, fun b hb => ⟨(h4 b hb).1, Nat.lt_of_lt_of_le (h4 b hb).2 g.size⟩, fun b hb => ⟨(h5 b hb).1, Nat.lt_of_lt_of_le (h5 b hb).2 g.size⟩, h6.step g⟩
theorem Pair.swap {T1 T2 : TypeId} {w1 w : World} {B1 B2 : Nat} {G1 G2 : PGraph} (h : Pair T1 T2 w1 w B1 B2 G1 G2) : Pair T2 T1 w1 w B2 B1 G2 G1 := by
  obtain ⟨S1, S2, h1, h2, h3, h4, h5, h6⟩ := h
  exact ⟨S2, S1, h2, h1, fun b hb hb' => h3 b hb' hb, h5, h4, h6⟩
theorem Pair.left {T1 T2 : TypeId} {w1 w : World} {B1 B2 : Nat} {G1 G2 : PGraph} (h : Pair T1 T2 w1 w B1 B2 G1 G2) : ∃ S, GraphOk T1 S w B1 G1 := by
  obtain ⟨S1, S2, h1, _⟩ := h
  exact ⟨S1, h1⟩
theorem Pair.grown {T1 T2 : TypeId} {w1 w : World} {B1 B2 : Nat} {G1 G2 : PGraph} (h : Pair T1 T2 w1 w B1 B2 G1 G2) : Grow w1 w := by
  obtain ⟨_, _, _, _, _, _, _, h⟩ := h; exact h
/-- the first one is changed -/
theorem Pair.step1 {T1 T2 : TypeId} {w1 w w' : World} {B1 B2 : Nat} {G2 G3 : PGraph} {S1 S2 : Nat → Prop} (h2 : GraphOk T2 S2 w B2 G2) (h3 : ∀ b, S1 b → ¬ S2 b) (h4 : ∀ b, S1 b → w1.heap.size ≤ b ∧ b < w.heap.size) (h5 : ∀ b, S2 b → w1.heap.size ≤ b ∧ b < w.heap.size) (h6 : Grow w1 w)
    (k1 : GraphOk T1 (fun b => S1 b ∨ w.heap.size ≤ b) w' B1 G3) (k2 : Mod S1 w w') : Pair T1 T2 w1 w' B1 B2 G3 G2 := by
  have hs := k2.size
  have h1s := h6.size
  refine ⟨fun b => (S1 b ∨ w.heap.size ≤ b) ∧ b < w'.heap.size, S2, k1.cut, h2.keep k2 (fun b hb hb' => h3 b hb' hb), fun b hb hb' => hb.1.elim (fun h => h3 b h hb') (fun h => by have := (h5 b hb').2; omega), fun b hb => ⟨hb.1.elim (fun h => (h4 b h).1) (fun h => by omega), hb.2⟩,
    fun b hb => ⟨(h5 b hb).1, by have := (h5 b hb).2; omega⟩, h6.modd k2 (fun b hb => (h4 b hb).1)⟩
/-- two that are made one behind the other -/
theorem Pair.make {T1 T2 : TypeId} {w1 w2 w3 : World} {B1 B2 : Nat} {G1 G2 : PGraph} (h1 : GraphOk T1 (fun b => w1.heap.size ≤ b) w2 B1 G1) (g1 : Grow w1 w2) (h2 : GraphOk T2 (fun b => w2.heap.size ≤ b) w3 B2 G2) (g2 : Grow w2 w3) : Pair T1 T2 w1 w3 B1 B2 G1 G2 := by
  have hs := g1.size; have hs2 := g2.size
  refine ⟨fun b => w1.heap.size ≤ b ∧ b < w2.heap.size, fun b => w2.heap.size ≤ b ∧ b < w3.heap.size, h1.cut.grow g2, h2.cut, fun b hb hb' => by omega, fun b hb => ⟨hb.1, by omega⟩, fun b hb => ⟨by omega, hb.2⟩, g1.step g2⟩

theorem pairDo1 {T2 : TypeId} (SC : Nat → Prop) (B1 B2 : Nat) (G1 G2 : PGraph) (nv ev rv iv : Value) (c : PCat) (o : POp) (w1 w : World) (h : Pair 68 T2 w1 w B1 B2 G1 G2) (hG : GInv G1) (hc : CatR SC w nv ev rv iv c) :
    Calls Tryz.prog 11 #[.pointer (some ⟨B1, 0, none⟩), c.arg nv ev rv iv, o.args] w fun e w' =>
      e = .returned (.tuple #[.int .i64 (if mayG c o G1 = 0 then idG o G1 else 0), .int .i64 (mayG c o G1)]) ∧ Pair 68 T2 w1 w' B1 B2 (stepG c o G1) G2 := by
  obtain ⟨S1, S2, h1, h2, h3, h4, h5, h6⟩ := h
  exact (graphDo S1 SC B1 G1 nv ev rv iv c o w h1 hG hc).mono fun _ _ ⟨k1, k2, k3⟩ => ⟨k1, Pair.step1 h2 h3 h4 h5 h6 k2 k3⟩
theorem pairDo2 {T2 : TypeId} (SC : Nat → Prop) (B1 B2 : Nat) (G1 G2 : PGraph) (nv ev rv iv : Value) (c : PCat) (o : POp) (w1 w : World) (h : Pair T2 70 w1 w B1 B2 G1 G2) (hG : GInv G2) (hc : CatR SC w nv ev rv iv c) :
    Calls Tryz.prog 12 #[.pointer (some ⟨B2, 0, none⟩), c.arg nv ev rv iv, o.args] w fun e w' =>
      e = .returned (.tuple #[.int .i64 (if mayG c o G2 = 0 then idG o G2 else 0), .int .i64 (mayG c o G2)]) ∧ Pair T2 70 w1 w' B1 B2 G1 (stepG c o G2) := by
  obtain ⟨S1, S2, h1, h2, h3, h4, h5, h6⟩ := h
  exact (refDo S2 SC B2 G2 nv ev rv iv c o w h2 hG hc).mono fun _ _ ⟨k1, k2, k3⟩ => ⟨k1, (Pair.step1 h1 (fun b hb hb' => h3 b hb' hb) h5 h4 h6 k2 k3).swap⟩

theorem keepNodesSame (Sa Sb : Nat → Prop) (va vb : Value) (a : List PNode) (w : World) (ha : NodesR Sa w va a) (hb : NodesR Sb w vb a) :
    Calls Tryz.prog 29 #[va, vb] w fun e w' => e = .returned (.bool true) ∧ Grow w w' :=
  (keepNodes Sa Sb va vb a a w ha hb).mono fun e w' ⟨h, g⟩ => ⟨by rw [h, decide_eq_true rfl], g⟩
theorem keepEdgesSame (Sa Sb : Nat → Prop) (va vb : Value) (a : List PEdge) (w : World) (ha : EdgesR Sa w va a) (hb : EdgesR Sb w vb a) :
    Calls Tryz.prog 31 #[va, vb] w fun e w' => e = .returned (.bool true) ∧ Grow w w' :=
  (keepEdges Sa Sb va vb a a w ha hb).mono fun e w' ⟨h, g⟩ => ⟨by rw [h, decide_eq_true rfl], g⟩
set_option maxRecDepth 100000 in
set_option maxHeartbeats 4000000 in
theorem lawSame (S1 S2 : Nat → Prop) (B1 B2 : Nat) (G : PGraph) (w : World) (h1 : GraphOk 68 S1 w B1 G) (h2 : GraphOk 70 S2 w B2 G) (hi : GInv G) :
    Calls Tryz.prog 13 #[.pointer (some ⟨B1, 0, none⟩), .pointer (some ⟨B2, 0, none⟩)] w fun e w' => e = .returned (.bool true) ∧ Grow w w' := by
  have H1 := Lib.hid h1; have H2 := Lib.hid h2; have HI := Lib.hid hi
  have HNL := Lib.hid (show G.nodes.length ≤ 1099511627776 by have := hi.items; omega)
  have HEL := Lib.hid (show G.edges.length ≤ 1099511627776 by have := hi.items; omega)
  have HNP := Lib.hid (show ∀ x ∈ G.nodes, x.props.length ≤ 1099511627776 from fun x hx => by have := (hi.nodesB x hx).2.2; omega)
  have HEP := Lib.hid (show ∀ x ∈ G.edges, x.props.length ≤ 1099511627776 from fun x hx => by have := (hi.edgesB x hx).2.2; omega)
  obtain ⟨na, nc, ea, ec, hB, c0, c1, c2, hn, he⟩ := h2.rd.read
  have HN := Lib.hid hn; have HE := Lib.hid he
  have HS := Lib.hid (show ∀ w', Grow w w' → (w'.cell? ⟨B2, 0, none⟩ = some (.slice na G.nodes.length nc) ∧ w'.cell? ⟨B2, 1, none⟩ = some (.slice ea G.edges.length ec) ∧ w'.cell? ⟨B2, 2, none⟩ = some (.int .i64 G.next)) from fun w' hg =>
    ⟨(hg.cell (p := ⟨B2, 0, none⟩) hB).trans c0, (hg.cell (p := ⟨B2, 1, none⟩) hB).trans c1, (hg.cell (p := ⟨B2, 2, none⟩) hB).trans c2⟩)
  have HD := Lib.hid (show Grow w w.drew from (Grow.rfl' w).drewd)
  clear h1 h2 hi hn he c0 c1 c2 hB
  go_enter Tryz.func13, Tryz.ntmps13
  go_wp2_with fail
  go_region_held3 (fun w' => w'.cell? ⟨B2, 0, none⟩ = some (.slice na G.nodes.length nc) ∧ w'.cell? ⟨B2, 1, none⟩ = some (.slice ea G.edges.length ec) ∧ w'.cell? ⟨B2, 2, none⟩ = some (.int .i64 G.next)) (first | exact HS.out _ HD.out | exact HS.out _ HG3.out | exact HS.out _ HG4.out | exact HS.out _ HG5.out | exact HS.out _ HG6.out) (first | (go_at_call 30; refine (graphNodes S1 B1 G _ (H1.out.rd.grow HD.out) HNL.out HNP.out).mono ?_; rintro e w3 ⟨v3, on, rfl, hon, -, hg3⟩; have HG3 := Lib.hid (HD.out.step hg3); have HON := Lib.hid (show NodesR (fun _ => True) w3 v3 G.nodes from SlR.sub (hon.toSl (S := fun _ => True) (fun _ _ => trivial)) (fun _ h => h) (fun x r _ hR => hR.sub (fun _ _ => trivial))); obtain ⟨a3, c3, rfl⟩ : ∃ a c, v3 = .slice a G.nodes.length c := (by obtain ⟨_, _, _, h⟩ := hon; obtain ⟨oa, cap, h, _⟩ := h.isSlice; exact ⟨oa, cap, h⟩); clear hon hg3) | (go_at_call 29; refine (keepNodesSame _ _ _ _ G.nodes _ HON.out (HN.out.grow HG3.out)).mono ?_; rintro e w4 ⟨rfl, hg4⟩; have HG4 := Lib.hid (HG3.out.step hg4); clear hg4) | (go_at_call 32; refine (graphEdges S1 B1 G _ (H1.out.rd.grow HG4.out) HEL.out HEP.out).mono ?_; rintro e w5 ⟨v5, oe, rfl, hoe, -, hg5⟩; have HG5 := Lib.hid (HG4.out.step hg5); have HOE := Lib.hid (show EdgesR (fun _ => True) w5 v5 G.edges from SlR.sub (hoe.toSl (S := fun _ => True) (fun _ _ => trivial)) (fun _ h => h) (fun x r _ hR => hR.sub (fun _ _ => trivial))); obtain ⟨a5, c5, rfl⟩ : ∃ a c, v5 = .slice a G.edges.length c := (by obtain ⟨_, _, _, h⟩ := hoe; obtain ⟨oa, cap, h, _⟩ := h.isSlice; exact ⟨oa, cap, h⟩); clear hoe hg5) | (go_at_call 31; refine (keepEdgesSame _ _ _ _ G.edges _ HOE.out (HE.out.grow HG5.out)).mono ?_; rintro e w6 ⟨rfl, hg6⟩; have HG6 := Lib.hid (HG5.out.step hg6); clear hg6) | (go_at_call 21; refine (graphNext S1 B1 G _ (H1.out.grow HG6.out)).mono ?_; rintro e w7 ⟨rfl, rfl⟩))
  go_wp2
  go_ret
  exact ⟨rfl, HG6.out⟩
end Go.Hg
