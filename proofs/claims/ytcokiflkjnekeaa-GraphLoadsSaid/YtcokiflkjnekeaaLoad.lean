/- graph.Load, Copy. Condition: at most 2^40 of each. -/
import Derived.Test.YtcokiflkjnekeaaGood
namespace Go.Hg
open Go.RowKit Go.Proofs

theorem RNode.cut {S : Nat → Prop} {w : World} {x : PNode} {r : List Value} (h : RNode S w x r) : RNode (fun b => S b ∧ b < w.heap.size) w x r := by
  obtain ⟨pv, hr, hp⟩ := h; exact ⟨pv, hr, hp.cut⟩
theorem REdge.cut {S : Nat → Prop} {w : World} {x : PEdge} {r : List Value} (h : REdge S w x r) : REdge (fun b => S b ∧ b < w.heap.size) w x r := by
  obtain ⟨pv, hr, hp⟩ := h; exact ⟨pv, hr, hp.cut⟩
theorem graph_close {T : TypeId} {w2 w3 w4 w5 : World} {B : Nat} {nv ev : Value} {nodes : List PNode} {edges : List PEdge} {next : Int} {on oe : Option Nat} (g23 : Grow w2 w3) (g34 : Grow w3 w4)
    (hn : OwnL w3 52 3 (RNode (fun b => w2.heap.size ≤ b ∧ on ≠ some b) w3) nv nodes on) (hon : ∀ g, on = some g → w2.heap.size ≤ g)
    (he : OwnL w4 56 5 (REdge (fun b => w3.heap.size ≤ b ∧ oe ≠ some b) w4) ev edges oe) (hoe : ∀ g, oe = some g → w3.heap.size ≤ g)
    (m : Mod (fun b => b = B) w4 w5) (hb : w5.heap[B]? = some (.cells #[nv, ev, .int .i64 next] T (0, 0))) (hB : B < w2.heap.size ∨ w4.heap.size ≤ B) :
    GraphOk T (fun b => b = B ∨ w2.heap.size ≤ b) w5 B ⟨nodes, edges, next⟩ := by
  have hs1 := g23.size
  have hs2 := g34.size
  have hs3 := m.size
  have hnl := hn.lt
  have hel := he.lt
  have hBn : ∀ b, w2.heap.size ≤ b → b < w4.heap.size → b ≠ B := fun b h1 h2 e => by omega
  refine ⟨nv, ev, fun b => (w2.heap.size ≤ b ∧ on ≠ some b ∧ b < w3.heap.size) ∨ (w3.heap.size ≤ b ∧ oe ≠ some b ∧ b < w4.heap.size), on, oe, hb, .inl rfl, ?_, ?_, ?_, ?_, ?_, ?_⟩
  · intro h
    rcases h with h | h <;> omega
  · intro b h
    rcases h with h | h
    · exact ⟨.inr h.1, by omega⟩
    · exact ⟨.inr (by omega), by omega⟩
  · intro g hg
    refine ⟨.inr (hon g hg), fun h => ?_⟩
    rcases h with h | h
    · exact h.2.1 hg
    · have := hnl g hg; omega
  · intro g hg
    refine ⟨.inr (by have := hoe g hg; omega), fun h => ?_⟩
    rcases h with h | h
    · have := hoe g hg; omega
    · exact h.2.1 hg
  · have h1 := hn.keep (R' := RNode (fun b => (w2.heap.size ≤ b ∧ on ≠ some b) ∧ b < w3.heap.size) w3) (w' := w3) (fun _ _ => rfl) (fun x r _ h => h.cut)
    have m35 : Mod (fun b => b = B) w3 w5 := (Mod.of_grow g34).step m
    refine h1.keep (fun g hg => m35.block g (hnl g hg) (hBn g (hon g hg) (by have := hnl g hg; omega))) (fun x r _ h => (h.mod m35 (fun b hb => hBn b hb.1.1 (by omega))).sub (fun b hb => .inl ⟨hb.1.1, hb.1.2, hb.2⟩))
  · have h1 := he.keep (R' := REdge (fun b => (w3.heap.size ≤ b ∧ oe ≠ some b) ∧ b < w4.heap.size) w4) (w' := w4) (fun _ _ => rfl) (fun x r _ h => h.cut)
    refine h1.keep (fun g hg => m.block g (hel g hg) (hBn g (by have := hoe g hg; omega) (hel g hg))) (fun x r _ h => (h.mod m (fun b hb => hBn b (by have := hb.1.1; omega) hb.2)).sub (fun b hb => .inr ⟨hb.1.1, hb.1.2, hb.2⟩))

theorem propsLen {S : Nat → Prop} {w : World} {sz : Nat} {v : Value} {l : List PNode} (h : SlR S w sz (RNode S w) v l) : ∀ x ∈ l, x.props.length ≤ maxLen := by
  intro x hx
  obtain ⟨k, hk⟩ := List.getElem?_of_mem hx
  obtain ⟨_, _, _, _, _, hA⟩ := SlR.open h
  obtain ⟨b, off, r, -, -, -, ⟨pv, -, hp⟩, -⟩ := hA k x hk
  obtain ⟨_, _, _, h1, h2, _⟩ := SlR.open hp
  omega

set_option maxHeartbeats 400000 in
theorem graphLoadNil (S : Nat → Prop) (nv ev : Value) (nodes : List PNode) (edges : List PEdge) (next : Int) (w : World) (hn : NodesR S w nv nodes) (he : EdgesR S w ev edges) :
    Calls Try.prog 29 #[.pointer none, nv, ev, .int .i64 next] w fun e w' => e = .returned (.int .i64 1) ∧ w = w' := by
  obtain ⟨_, _, rfl, _⟩ := SlR.open hn
  obtain ⟨_, _, rfl, _⟩ := SlR.open he
  clear hn he
  go_enter Try.func29, Try.ntmps29
  go_wp2
  go_ret
  exact ⟨rfl, rfl⟩

/-- what Load leaves -/
def LoadPost (T : TypeId) (B : Nat) (L : PGraph) (w : World) (e : Ending) (w' : World) : Prop :=
  (goodG L = true ∧ e = .returned (.int .i64 0) ∧ GraphOk T (fun b => b = B ∨ w.heap.size ≤ b) w' B L ∧ Mod (fun b => b = B) w w') ∨ (goodG L = false ∧ e = .returned (.int .i64 11) ∧ Grow w w')

set_option maxRecDepth 100000 in
set_option maxHeartbeats 2000000 in
theorem graphLoad (S : Nat → Prop) (B : Nat) (cs : Array Value) (nv ev : Value) (nodes : List PNode) (edges : List PEdge) (next : Int) (w : World) (hcs : cs.size = 3) (hBb : w.heap[B]? = some (.cells cs 81 (0, 0))) (hn : NodesR S w nv nodes) (he : EdgesR S w ev edges)
    (hn40 : nodes.length ≤ 1099511627776) (he40 : edges.length ≤ 1099511627776) :
    Calls Try.prog 29 #[.pointer (some ⟨B, 0, none⟩), nv, ev, .int .i64 next] w (LoadPost 81 B ⟨nodes, edges, next⟩ w) := by
  have HN := Lib.hid hn; have HE := Lib.hid he; have HN40 := Lib.hid hn40; have HE40 := Lib.hid he40; have HB := Lib.hid hBb
  obtain ⟨na, nc, rfl, _⟩ := SlR.open hn
  obtain ⟨ea, ec, rfl, _⟩ := SlR.open he
  have hBl := blk_lt hBb
  have HW := Lib.hid (show ∀ o1, Grow w (w.alloc o1) from fun o1 => (Grow.rfl' w).allocd o1)
  have HRD := Lib.hid (show GraphRd 81 S (w.alloc (.cells #[.slice na nodes.length nc, .slice ea edges.length ec, .int .i64 next] 81)) w.heap.size ⟨nodes, edges, next⟩ from
    ⟨_, _, heap_alloc_new w _, HN.out.grow (HW.out _), HE.out.grow (HW.out _)⟩)
  obtain ⟨v0, v1, v2, rfl⟩ : ∃ a b c, cs = #[a, b, c] := by
    match cs, hcs with
    | ⟨[a, b, c]⟩, _ => exact ⟨a, b, c, rfl⟩
  clear hn he hn40 he40 hBb hcs
  go_enter Try.func29, Try.ntmps29
  go_wp2_with fail
  refine (graphGood S _ _ _ HRD.out HN40.out HE40.out).mono ?_
  rintro e w2 ⟨rfl, hg2⟩
  have HG2 := Lib.hid ((HW.out _).step hg2); have HA2 := Lib.hid hg2
  clear hg2
  cases hgd : goodG ⟨nodes, edges, next⟩
  · have HGD := Lib.hid hgd; clear hgd
    go_wp2
    go_ret
    exact .inr ⟨HGD.out, rfl, HG2.out⟩
  · have HGD := Lib.hid hgd; clear hgd
    have hP := goodG_inv HGD.out
    have HPN := Lib.hid (show ∀ x ∈ nodes, x.props.length ≤ 1099511627776 from fun x hx => by have := (hP.nodesB x hx).2.2; omega)
    have HPE := Lib.hid (show ∀ x ∈ edges, x.props.length ≤ 1099511627776 from fun x hx => by have := (hP.edgesB x hx).2.2; omega)
    clear hP
    go_wp2_with fail
    refine (graphNodes S _ ⟨nodes, edges, next⟩ _ (HRD.out.grow HA2.out) HN40.out HPN.out).mono ?_
    rintro e w3 ⟨v3, on, rfl, hon, hon2, hg3⟩
    have HON := Lib.hid hon; have HON2 := Lib.hid hon2; have HG3 := Lib.hid hg3
    obtain ⟨a3, c3, rfl⟩ : ∃ a c, v3 = .slice a nodes.length c := by obtain ⟨_, _, _, h⟩ := hon; obtain ⟨oa, cap, h, _⟩ := h.isSlice; exact ⟨oa, cap, h⟩
    clear hon hon2 hg3
    go_wp2_with fail
    refine (graphEdges S _ ⟨nodes, edges, next⟩ _ (HRD.out.grow (HA2.out.step HG3.out)) HE40.out HPE.out).mono ?_
    rintro e w4 ⟨v4, oe, rfl, hoe, hoe2, hg4⟩
    have HOE := Lib.hid hoe; have HOE2 := Lib.hid hoe2; have HG4 := Lib.hid hg4
    obtain ⟨a4, c4, rfl⟩ : ∃ a c, v4 = .slice a edges.length c := by obtain ⟨_, _, _, h⟩ := hoe; obtain ⟨oa, cap, h, _⟩ := h.isSlice; exact ⟨oa, cap, h⟩
    have hb4 := (((HG2.out.step HG3.out).step hg4).heapEq hBl).trans HB.out
    have HB4 := Lib.hid hb4
    have hl4 := blk_lt hb4
    have y0 : w4.cell? ⟨B, 0, none⟩ = some v0 := by rw [blk_cell hb4]; rfl
    have y1 : w4.cell? ⟨B, 1, none⟩ = some v1 := by rw [blk_cell hb4]; rfl
    have y2 : w4.cell? ⟨B, 2, none⟩ = some v2 := by rw [blk_cell hb4]; rfl
    have f0 := blk_free hb4 0
    have f1 := blk_free hb4 1
    have f2 := blk_free hb4 2
    clear hoe hoe2 hg4 hb4
    go_wp2
    go_ret
    have m5 : Mod (fun b => b = B) w4 (((w4.setCell ⟨B, 0, none⟩ (.slice a3 nodes.length c3)).setCell ⟨B, 1, none⟩ (.slice a4 edges.length c4)).setCell ⟨B, 2, none⟩ (.int .i64 next)) :=
      (((Mod.rfl' (fun b => b = B) w4).setd (p := ⟨B, 0, none⟩) (.inl rfl) _).setd (p := ⟨B, 1, none⟩) (.inl rfl) _).setd (p := ⟨B, 2, none⟩) (.inl rfl) _
    have hb5 : (((w4.setCell ⟨B, 0, none⟩ (.slice a3 nodes.length c3)).setCell ⟨B, 1, none⟩ (.slice a4 edges.length c4)).setCell ⟨B, 2, none⟩ (.int .i64 next)).heap[B]? = some (.cells #[.slice a3 nodes.length c3, .slice a4 edges.length c4, .int .i64 next] 81 (0, 0)) :=
      heap_setCell_same _ B 2 _ _ _ (heap_setCell_same _ B 1 _ _ _ (heap_setCell_same w4 B 0 _ _ _ HB4.out))
    have hcl := graph_close (T := 81) HG3.out HG4.out HON.out HON2.out HOE.out HOE2.out m5 hb5 (.inl (Nat.lt_of_lt_of_le hBl HG2.out.size))
    exact .inl ⟨HGD.out, rfl, hcl.sub (fun b hb => hb.imp id (fun h => Nat.le_trans HG2.out.size h)), (Mod.of_grow ((HG2.out.step HG3.out).step HG4.out)).step m5⟩
end Go.Hg
