/- hedgerowref17.Load: a graph of its own, where nodes and edges are a graph's. Condition: at most 2^40 of each. -/
import Derived.Test.YtcokiflkjnekeaaRefGood
import Derived.Test.YtcokiflkjnekeaaLoad
namespace Go.Hg
open Go.RowKit Go.Proofs

theorem NodesO.form {F : Nat → Prop} {w : World} {v : Value} {l : List PNode} (h : NodesO F w v l) : ∃ ob, OwnL w 52 3 (RNode (fun b => F b ∧ ob ≠ some b) w) v l ob ∧ ∀ g, ob = some g → F g := by
  obtain ⟨S, ob, h1, h2, h3⟩ := h
  exact ⟨ob, h3.keep (fun _ _ => rfl) (fun x r _ hR => hR.sub (fun b hb => ⟨(h1 b hb).1, fun e => (h2 b e).2 hb⟩)), fun g hg => (h2 g hg).1⟩
theorem EdgesO.form {F : Nat → Prop} {w : World} {v : Value} {l : List PEdge} (h : EdgesO F w v l) : ∃ ob, OwnL w 56 5 (REdge (fun b => F b ∧ ob ≠ some b) w) v l ob ∧ ∀ g, ob = some g → F g := by
  obtain ⟨S, ob, h1, h2, h3⟩ := h
  exact ⟨ob, h3.keep (fun _ _ => rfl) (fun x r _ hR => hR.sub (fun b hb => ⟨(h1 b hb).1, fun e => (h2 b e).2 hb⟩)), fun g hg => (h2 g hg).1⟩
/-- what Load leaves -/
def RLoadPost (L : PGraph) (w : World) (e : Ending) (w' : World) : Prop :=
  (goodG L = true ∧ ∃ B, e = .returned (.tuple #[.pointer (some ⟨B, 0, none⟩), .int .i64 0]) ∧ GraphOk 88 (fun b => w.heap.size ≤ b) w' B L ∧ Grow w w') ∨ (goodG L = false ∧ e = .returned (.tuple #[.pointer none, .int .i64 11]) ∧ Grow w w')
set_option maxRecDepth 100000 in
set_option maxHeartbeats 2000000 in
theorem refLoad (S : Nat → Prop) (nv ev : Value) (nodes : List PNode) (edges : List PEdge) (next : Int) (w : World) (hn : NodesR S w nv nodes) (he : EdgesR S w ev edges) (hn40 : nodes.length ≤ 1099511627776) (he40 : edges.length ≤ 1099511627776)
    (hpn : ∀ x ∈ nodes, x.props.length ≤ 1099511627776) (hpe : ∀ x ∈ edges, x.props.length ≤ 1099511627776) :
    Calls Try.prog 26 #[nv, ev, .int .i64 next] w (RLoadPost ⟨nodes, edges, next⟩ w) := by
  have HN := Lib.hid hn; have HE := Lib.hid he; have HN40 := Lib.hid hn40; have HE40 := Lib.hid he40; have HPN := Lib.hid hpn; have HPE := Lib.hid hpe
  obtain ⟨na, nc, rfl, _⟩ := SlR.open hn
  obtain ⟨ea, ec, rfl, _⟩ := SlR.open he
  clear hn he hn40 he40 hpn hpe
  go_enter Try.func26, Try.ntmps26
  go_wp2_with fail
  refine (refGood S _ _ nodes edges next _ HN.out HE.out HN40.out HE40.out).mono ?_
  rintro e w2 ⟨rfl, hg2⟩
  have HG2 := Lib.hid hg2
  clear hg2
  cases hgd : goodG ⟨nodes, edges, next⟩
  · have HGD := Lib.hid hgd; clear hgd
    go_wp2
    go_ret2
    exact .inr ⟨HGD.out, rfl, HG2.out⟩
  · have HGD := Lib.hid hgd; clear hgd
    go_wp2_with fail
    refine (copyNodes S _ nodes _ (HN.out.grow HG2.out) HN40.out HPN.out).mono ?_
    rintro e w3 ⟨v3, rfl, h3, hg3⟩
    have H3 := Lib.hid h3; have HG3 := Lib.hid hg3
    obtain ⟨a3, c3, rfl, -⟩ := SlR.open h3.toR
    clear h3 hg3
    go_wp2_with fail
    refine (copyEdges S _ edges _ (HE.out.grow (HG2.out.step HG3.out)) HE40.out HPE.out).mono ?_
    rintro e w4 ⟨v4, rfl, h4, hg4⟩
    have H4 := Lib.hid h4; have HG4 := Lib.hid hg4
    obtain ⟨a4, c4, rfl, -⟩ := SlR.open h4.toR
    clear h4 hg4
    go_wp2
    go_ret2
    obtain ⟨on, hon, hon2⟩ := H3.out.form
    obtain ⟨oe, hoe, hoe2⟩ := H4.out.form
    have m5 : Mod (fun b => b = w4.heap.size) w4 (w4.alloc (.cells #[.slice a3 nodes.length c3, .slice a4 edges.length c4, .int .i64 next] 88)) := Mod.of_grow ((Grow.rfl' w4).allocd _)
    have hcl := graph_close (T := 88) HG3.out HG4.out hon hon2 hoe hoe2 m5 (heap_alloc_new w4 _) (.inr (Nat.le_refl _))
    refine .inl ⟨HGD.out, w4.heap.size, rfl, hcl.sub (fun b hb => ?_), ((HG2.out.step HG3.out).step HG4.out).allocd _⟩
    rcases hb with rfl | hb
    · exact ((HG2.out.step HG3.out).step HG4.out).size
    · exact Nat.le_trans HG2.out.size hb
end Go.Hg
