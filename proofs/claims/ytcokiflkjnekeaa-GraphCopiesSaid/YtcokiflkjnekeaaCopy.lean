/- graph.Copy. No condition but a graph's own. -/
import Derived.Test.YtcokiflkjnekeaaLoad
namespace Go.Hg
open Go.RowKit Go.Proofs

set_option maxHeartbeats 400000 in
theorem graphCopyNil (w : World) : Calls Try.prog 20 #[.pointer none] w fun e w' => e = .returned (.pointer none) ∧ w = w' := by
  go_enter Try.func20, Try.ntmps20
  go_wp2
  go_ret
  exact ⟨rfl, rfl⟩

/-- what Copy leaves -/
def CopyPost (T : TypeId) (G : PGraph) (w : World) (e : Ending) (w' : World) : Prop := ∃ B, e = .returned (.pointer (some ⟨B, 0, none⟩)) ∧ GraphOk T (fun b => w.heap.size ≤ b) w' B G ∧ Grow w w'

set_option maxRecDepth 100000 in
set_option maxHeartbeats 2000000 in
theorem graphCopy (S : Nat → Prop) (B : Nat) (G : PGraph) (w : World) (h : GraphRd 81 S w B G) (hn40 : G.nodes.length ≤ 1099511627776) (he40 : G.edges.length ≤ 1099511627776)
    (hpn : ∀ x ∈ G.nodes, x.props.length ≤ 1099511627776) (hpe : ∀ x ∈ G.edges, x.props.length ≤ 1099511627776) :
    Calls Try.prog 20 #[.pointer (some ⟨B, 0, none⟩)] w (CopyPost 81 G w) := by
  have HGR := Lib.hid h; have HN40 := Lib.hid hn40; have HE40 := Lib.hid he40; have HPN := Lib.hid hpn; have HPE := Lib.hid hpe
  obtain ⟨na, nc, ea, ec, hB, g0, g1, g2, -, -⟩ := h.read
  have HD := Lib.hid (show Grow w w.drew from (Grow.rfl' w).drewd)
  have HS := Lib.hid (show ∀ w', Grow w w' → w'.cell? ⟨B, 2, none⟩ = some (.int .i64 G.next) from fun w' hg => (hg.cell (p := ⟨B, 2, none⟩) hB).trans g2)
  clear h hn40 he40 hpn hpe
  go_enter Try.func20, Try.ntmps20
  go_wp2_with fail
  go_region_held3 (fun w' => w'.cell? ⟨B, 2, none⟩ = some (.int .i64 G.next)) (first | exact HS.out _ HD.out | exact HS.out _ (HD.out.step hg3) | exact HS.out _ ((HD.out.step HG3.out).step hg4) | exact HS.out _ (((HD.out.step HG3.out).step HG4.out).allocd _)) (first | (go_at_call 15; refine (graphNodes S _ G _ (HGR.out.grow HD.out) HN40.out HPN.out).mono ?_; rintro e w3 ⟨v3, on, rfl, hon, hon2, hg3⟩; have HON := Lib.hid hon; have HON2 := Lib.hid hon2; have HG3 := Lib.hid hg3; obtain ⟨a3, c3, rfl⟩ : ∃ a c, v3 = .slice a G.nodes.length c := (by obtain ⟨_, _, _, h⟩ := hon; obtain ⟨oa, cap, h, _⟩ := h.isSlice; exact ⟨oa, cap, h⟩); clear hon hon2) | (go_at_call 16; refine (graphEdges S _ G _ (HGR.out.grow (HD.out.step HG3.out)) HE40.out HPE.out).mono ?_; rintro e w4 ⟨v4, oe, rfl, hoe, hoe2, hg4⟩; have HOE := Lib.hid hoe; have HOE2 := Lib.hid hoe2; have HG4 := Lib.hid hg4; obtain ⟨a4, c4, rfl⟩ : ∃ a c, v4 = .slice a G.edges.length c := (by obtain ⟨_, _, _, h⟩ := hoe; obtain ⟨oa, cap, h, _⟩ := h.isSlice; exact ⟨oa, cap, h⟩); clear hoe hoe2))
  go_wp2
  go_ret
  have g14 : Grow w w4 := (HD.out.step HG3.out).step HG4.out
  have m5 : Mod (fun b => b = w4.heap.size) w4 (w4.alloc (.cells #[.slice a3 G.nodes.length c3, .slice a4 G.edges.length c4, .int .i64 G.next] 81)) := Mod.of_grow ((Grow.rfl' w4).allocd _)
  have hcl := graph_close (T := 81) HG3.out HG4.out HON.out HON2.out HOE.out HOE2.out m5 (heap_alloc_new w4 _) (.inr (Nat.le_refl _))
  refine ⟨w4.heap.size, rfl, hcl.sub (fun b hb => ?_), g14.allocd _⟩
  rcases hb with rfl | hb
  · exact g14.size
  · exact Nat.le_trans HD.out.size hb
end Go.Hg
