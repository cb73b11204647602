/- A graph behind a pointer: what lies there. graph.New, Next, full, given, node, edge. No condition but a graph's own. -/
import Derived.Test.YtcokiflkjnekeaaGreatClone
import Derived.Test.YtcokiflkjnekeaaGreatBs
import Derived.Test.YtcokiflkjnekeaaGreatValC
namespace Go.Hg
open Go.RowKit Go.Proofs

structure PGraph where
  nodes : List PNode
  edges : List PEdge
  next : Int
deriving DecidableEq

/-- A graph (the program's or the reference's: T) at block B; what is its own lies in S. -/
def GraphOk (T : TypeId) (S : Nat → Prop) (w : World) (B : Nat) (G : PGraph) : Prop :=
  ∃ (nv ev : Value) (R : Nat → Prop) (on oe : Option Nat), w.heap[B]? = some (.cells #[nv, ev, .int .i64 G.next] T (0, 0)) ∧ S B ∧ ¬ R B ∧ (∀ b, R b → S b ∧ b < w.heap.size) ∧
    (∀ g, on = some g → S g ∧ ¬ R g) ∧ (∀ g, oe = some g → S g ∧ ¬ R g) ∧ OwnL w 59 3 (RNode R w) nv G.nodes on ∧ OwnL w 79 5 (REdge R w) ev G.edges oe

theorem OwnL.lt {α : Type} {w : World} {E : TypeId} {sz : Nat} {R : α → List Value → Prop} {v : Value} {l : List α} {ob : Option Nat} (h : OwnL w E sz R v l ob) : ∀ g, ob = some g → g < w.heap.size := by
  obtain ⟨_, _, _, h⟩ := h; exact h.lt
theorem OwnL.blkE {α : Type} {w : World} {E : TypeId} {sz : Nat} {R : α → List Value → Prop} {v : Value} {l : List α} {ob : Option Nat} (h : OwnL w E sz R v l ob) : ∀ g, ob = some g → ∃ cs, w.heap[g]? = some (.cells cs E (0, 0)) := by
  intro g hg
  obtain ⟨_, _, _, _, h⟩ := h
  rcases h with ⟨_, _, _, h, _⟩ | ⟨g', cap, cur, _, h, hh, _⟩
  · rw [h] at hg; cases hg
  · rw [h] at hg; cases hg; exact ⟨cur, hh⟩
theorem GraphOk.keep {T : TypeId} {S F : Nat → Prop} {w w' : World} {B : Nat} {G : PGraph} (h : GraphOk T S w B G) (g : Mod F w w') (hd : ∀ b, S b → ¬ F b) : GraphOk T S w' B G := by
  obtain ⟨nv, ev, R, on, oe, h1, h2, h3, h4, h5, h6, h7, h8⟩ := h
  refine ⟨nv, ev, R, on, oe, (g.block B (blk_lt h1) (hd B h2)).trans h1, h2, h3, fun b hb => ⟨(h4 b hb).1, Nat.lt_of_lt_of_le (h4 b hb).2 g.size⟩, h5, h6, ?_, ?_⟩
  · exact h7.keep (fun k hk => g.block k (h7.lt k hk) (hd k (h5 k hk).1)) (fun x r _ hR => hR.mod g (fun b hb => hd b (h4 b hb).1))
  · exact h8.keep (fun k hk => g.block k (h8.lt k hk) (hd k (h6 k hk).1)) (fun x r _ hR => hR.mod g (fun b hb => hd b (h4 b hb).1))
theorem GraphOk.grow {T : TypeId} {S : Nat → Prop} {w w' : World} {B : Nat} {G : PGraph} (h : GraphOk T S w B G) (g : Grow w w') : GraphOk T S w' B G := h.keep (Mod.of_grow (F := fun _ => False) g) (fun _ _ => id)
theorem GraphOk.cut {T : TypeId} {S : Nat → Prop} {w : World} {B : Nat} {G : PGraph} (h : GraphOk T S w B G) : GraphOk T (fun b => S b ∧ b < w.heap.size) w B G := by
  obtain ⟨nv, ev, R, on, oe, h1, h2, h3, h4, h5, h6, h7, h8⟩ := h
  exact ⟨nv, ev, R, on, oe, h1, ⟨h2, blk_lt h1⟩, h3, fun b hb => ⟨h4 b hb, (h4 b hb).2⟩, fun g hg => ⟨⟨(h5 g hg).1, h7.lt g hg⟩, (h5 g hg).2⟩, fun g hg => ⟨⟨(h6 g hg).1, h8.lt g hg⟩, (h6 g hg).2⟩, h7, h8⟩
theorem GraphOk.sub {T : TypeId} {S S' : Nat → Prop} {w : World} {B : Nat} {G : PGraph} (h : GraphOk T S w B G) (hS : ∀ b, S b → S' b) : GraphOk T S' w B G := by
  obtain ⟨nv, ev, R, on, oe, h1, h2, h3, h4, h5, h6, h7, h8⟩ := h
  exact ⟨nv, ev, R, on, oe, h1, hS _ h2, h3, fun b hb => ⟨hS _ (h4 b hb).1, (h4 b hb).2⟩, fun g hg => ⟨hS _ (h5 g hg).1, (h5 g hg).2⟩, fun g hg => ⟨hS _ (h6 g hg).1, (h6 g hg).2⟩, h7, h8⟩
/-- what a walk reads -/
theorem GraphOk.read {T : TypeId} {S : Nat → Prop} {w : World} {B : Nat} {G : PGraph} (h : GraphOk T S w B G) :
    ∃ na nc ea ec, B < w.heap.size ∧ w.cell? ⟨B, 0, none⟩ = some (.slice na G.nodes.length nc) ∧ w.cell? ⟨B, 1, none⟩ = some (.slice ea G.edges.length ec) ∧ w.cell? ⟨B, 2, none⟩ = some (.int .i64 G.next) ∧
      NodesR S w (.slice na G.nodes.length nc) G.nodes ∧ EdgesR S w (.slice ea G.edges.length ec) G.edges := by
  obtain ⟨nv, ev, R, on, oe, h1, h2, h3, h4, h5, h6, h7, h8⟩ := h
  have hn : NodesR S w nv G.nodes := SlR.sub (h7.toSl (S := S) (fun g hg => (h5 g hg).1)) (fun _ h => h) (fun x r _ hR => hR.sub (fun b hb => (h4 b hb).1))
  have he : EdgesR S w ev G.edges := SlR.sub (h8.toSl (S := S) (fun g hg => (h6 g hg).1)) (fun _ h => h) (fun x r _ hR => hR.sub (fun b hb => (h4 b hb).1))
  obtain ⟨na, nc, rfl, _⟩ := SlR.open hn
  obtain ⟨ea, ec, rfl, _⟩ := SlR.open he
  exact ⟨na, nc, ea, ec, blk_lt h1, by rw [blk_cell h1]; rfl, by rw [blk_cell h1]; rfl, by rw [blk_cell h1]; rfl, hn, he⟩

/-- what holds of each graph that the layers make -/
structure GInv (G : PGraph) : Prop where
  next0 : 1 ≤ G.next
  next1 : G.next ≤ 4611686018427387904
  items : G.nodes.length + G.edges.length ≤ 1024
  nodes : (G.nodes.map (·.id)).Pairwise (· < ·)
  edges : (G.edges.map (·.id)).Pairwise (· < ·)
  nodesB : ∀ x ∈ G.nodes, 1 ≤ x.id ∧ x.id < G.next ∧ x.props.length ≤ 8
  edgesB : ∀ x ∈ G.edges, 1 ≤ x.id ∧ x.id < G.next ∧ x.props.length ≤ 8

def PGraph.empty : PGraph := ⟨[], [], 1⟩
theorem GInv.empty : GInv PGraph.empty := ⟨by decide, by decide, by decide, by simp [PGraph.empty], by simp [PGraph.empty], by simp [PGraph.empty], by simp [PGraph.empty]⟩
def fullG (G : PGraph) : Bool := decide (1024 ≤ G.nodes.length + G.edges.length) || decide (4611686018427387903 < G.next)

set_option maxHeartbeats 400000 in
theorem graphNew (w : World) : Calls Tryz.prog 7 #[] w fun e w' => ∃ B, e = .returned (.pointer (some ⟨B, 0, none⟩)) ∧ GraphOk 68 (fun b => w.heap.size ≤ b) w' B PGraph.empty ∧ Grow w w' := by
  have hg : ∀ o, Grow w (w.alloc o) := fun o => (Grow.rfl' w).allocd o
  have HB := Lib.hid (heap_alloc_new w (.cells #[.slice none 0 0, .slice none 0 0, .int .i64 1] 68))
  have HG := Lib.hid hg; clear hg
  go_enter Tryz.func7, Tryz.ntmps7
  go_wp2
  go_ret
  exact ⟨_, rfl, ⟨_, _, fun _ => False, none, none, HB.out, Nat.le_refl _, id, fun _ h => h.elim, by simp, by simp, OwnL.nil _ _ _ _, OwnL.nil _ _ _ _⟩, HG.out _⟩
set_option maxHeartbeats 400000 in
theorem refNew (w : World) : Calls Tryz.prog 8 #[] w fun e w' => ∃ B, e = .returned (.pointer (some ⟨B, 0, none⟩)) ∧ GraphOk 70 (fun b => w.heap.size ≤ b) w' B PGraph.empty ∧ Grow w w' := by
  have hg : ∀ o, Grow w (w.alloc o) := fun o => (Grow.rfl' w).allocd o
  have HB := Lib.hid (heap_alloc_new w (.cells #[.slice none 0 0, .slice none 0 0, .int .i64 1] 70))
  have HG := Lib.hid hg; clear hg
  go_enter Tryz.func8, Tryz.ntmps8
  go_wp2
  go_ret
  exact ⟨_, rfl, ⟨_, _, fun _ => False, none, none, HB.out, Nat.le_refl _, id, fun _ h => h.elim, by simp, by simp, OwnL.nil _ _ _ _, OwnL.nil _ _ _ _⟩, HG.out _⟩
set_option maxHeartbeats 400000 in
theorem graphNext (S : Nat → Prop) (B : Nat) (G : PGraph) (w : World) (h : GraphOk 68 S w B G) :
    Calls Tryz.prog 21 #[.pointer (some ⟨B, 0, none⟩)] w fun e w' => e = .returned (.int .i64 G.next) ∧ w = w' := by
  obtain ⟨na, nc, ea, ec, hb, c0, c1, c2, -, -⟩ := h.read
  clear h
  go_enter Tryz.func21, Tryz.ntmps21
  go_wp2
  go_ret
  exact ⟨rfl, rfl⟩
set_option maxRecDepth 100000 in
set_option maxHeartbeats 1000000 in
theorem graphFull (S : Nat → Prop) (B : Nat) (G : PGraph) (w : World) (h : GraphOk 68 S w B G) (hi : G.nodes.length + G.edges.length ≤ 1024) :
    Calls Tryz.prog 73 #[.pointer (some ⟨B, 0, none⟩)] w fun e w' => e = .returned (.bool (fullG G)) ∧ Grow w w' := by
  obtain ⟨na, nc, ea, ec, hb, c0, c1, c2, -, -⟩ := h.read
  clear h
  have hw : IntKind.i64.wrap ((G.nodes.length : Int) + (G.edges.length : Int)) = (G.nodes.length : Int) + (G.edges.length : Int) := by rw [IntKind.wrap_i64]; omega
  unfold fullG
  by_cases h1 : 1024 ≤ G.nodes.length + G.edges.length
  · have h1' : decide (1024 ≤ (G.nodes.length : Int) + (G.edges.length : Int)) = true := by simp; omega
    have HX := Lib.hid (decide_eq_true h1)
    clear h1 hi
    go_enter Tryz.func73, Tryz.ntmps73
    go_wp2_with fail
    refine wp_region_grow (by kernel_rfl) (by kernel_rfl) ?_
    repeat (go_big_quiet_step (fail))
    refine wpQuiet_nil ?_
    intro w2 hw2
    go_wp2
    go_ret
    exact ⟨by rw [HX.out]; rfl, hw2⟩
  · have h1' : decide (1024 ≤ (G.nodes.length : Int) + (G.edges.length : Int)) = false := by simp; omega
    have HX := Lib.hid (decide_eq_false h1)
    clear h1 hi
    go_enter Tryz.func73, Tryz.ntmps73
    go_wp2_with fail
    refine wp_region_grow (by kernel_rfl) (by kernel_rfl) ?_
    repeat (go_big_quiet_step (fail))
    refine wpQuiet_nil ?_
    intro w2 hw2
    go_wp2
    go_ret
    exact ⟨by rw [HX.out]; rfl, hw2⟩
set_option maxHeartbeats 400000 in
theorem graphGiven (B : Nat) (nv ev : Value) (next : Int) (w : World) (h : w.heap[B]? = some (.cells #[nv, ev, .int .i64 next] 68 (0, 0))) (h0 : 1 ≤ next) (h1 : next ≤ 4611686018427387904) :
    Calls Tryz.prog 74 #[.pointer (some ⟨B, 0, none⟩)] w fun e w' => e = .returned (.int .i64 next) ∧ w'.heap[B]? = some (.cells #[nv, ev, .int .i64 (next + 1)] 68 (0, 0)) ∧ Mod (fun b => b = B) w w' := by
  have c2 : w.cell? ⟨B, 2, none⟩ = some (.int .i64 next) := by rw [blk_cell h]; rfl
  have f2 := blk_free h 2
  have HM := Lib.hid (show Mod (fun b => b = B) w (w.setCell ⟨B, 2, none⟩ (.int .i64 (next + 1))) from (Mod.rfl' (fun b => b = B) w).setd (p := ⟨B, 2, none⟩) (.inl rfl) _)
  have HH := Lib.hid (show (w.setCell ⟨B, 2, none⟩ (.int .i64 (next + 1))).heap[B]? = some (.cells #[nv, ev, .int .i64 (next + 1)] 68 (0, 0)) by
    rw [heap_setCell_same w B 2 _ 68 _ h]; rfl)
  clear h
  go_enter Tryz.func74, Tryz.ntmps74
  go_wp2
  go_ret
  refine ⟨?_, HH.out, HM.out⟩
  first | rfl | (congr 2; omega) | simp
set_option maxHeartbeats 400000 in
theorem graphNode_ (S : Nat → Prop) (B : Nat) (G : PGraph) (id : Int) (w : World) (h : GraphOk 68 S w B G) (hG : GInv G) :
    Calls Tryz.prog 45 #[.pointer (some ⟨B, 0, none⟩), .int .i64 id] w (BsPost (G.nodes.map (·.id)) id w) := by
  obtain ⟨na, nc, ea, ec, hb, c0, c1, c2, hn, -⟩ := h.read
  clear h
  have HN := Lib.hid hn; have HS := Lib.hid hG.nodes; have HI := Lib.hid hG.items; clear hn hG
  go_enter Tryz.func45, Tryz.ntmps45
  go_wp2_with fail
  refine (bsNodes S _ G.nodes id _ HN.out HS.out (by have := HI.out; omega)).mono ?_
  rintro e w2 ⟨i, b, rfl, hb, hg⟩
  have HB := Lib.hid hb; clear hb
  go_wp2
  go_ret2
  exact BsPost.mk i b rfl HB.out hg
set_option maxHeartbeats 400000 in
theorem graphEdge_ (S : Nat → Prop) (B : Nat) (G : PGraph) (id : Int) (w : World) (h : GraphOk 68 S w B G) (hG : GInv G) :
    Calls Tryz.prog 66 #[.pointer (some ⟨B, 0, none⟩), .int .i64 id] w (BsPost (G.edges.map (·.id)) id w) := by
  obtain ⟨na, nc, ea, ec, hb, c0, c1, c2, -, hn⟩ := h.read
  clear h
  have HN := Lib.hid hn; have HS := Lib.hid hG.edges; have HI := Lib.hid hG.items; clear hn hG
  go_enter Tryz.func66, Tryz.ntmps66
  go_wp2_with fail
  refine (bsEdges S _ G.edges id _ HN.out HS.out (by have := HI.out; omega)).mono ?_
  rintro e w2 ⟨i, b, rfl, hb, hg⟩
  have HB := Lib.hid hb; clear hb
  go_wp2
  go_ret2
  exact BsPost.mk i b rfl HB.out hg
end Go.Hg
