/- graph.Node, Edge: what has an Id, copied. Of no graph: nothing. Condition: rising Ids. Printed by genget.py. -/
import Derived.Test.YtcokiflkjnekeaaGreatRead
namespace Go.Hg
open Go.RowKit Go.Proofs

set_option maxHeartbeats 400000 in
theorem graphNodesNil (w : World) : Calls Tryz.prog 30 #[.pointer none] w fun e w' => e = .returned (.slice none 0 0) ∧ w = w' := by
  go_enter Tryz.func30, Tryz.ntmps30
  go_wp2
  go_ret
  exact ⟨rfl, rfl⟩
/-- what Node tells -/
def NodePost (G : PGraph) (id : Int) (w : World) (e : Ending) (w' : World) : Prop :=
  (((G.nodes.find? fun x => decide (x.id = id)) = none ∧ e = .returned (.tuple #[.agg #[.int .i64 0, .string ByteArray.empty, .slice none 0 0], .bool false])) ∨
   ∃ x pv, (G.nodes.find? fun x => decide (x.id = id)) = some x ∧ e = .returned (.tuple #[.agg #[.int .i64 x.id, .string x.typ, pv], .bool true]) ∧ PropsR (fun b => w.heap.size ≤ b) w' pv x.props) ∧ Grow w w'

set_option maxRecDepth 100000 in
set_option maxHeartbeats 2000000 in
theorem graphGetNode (S : Nat → Prop) (B : Nat) (G : PGraph) (id : Int) (w : World) (h : GraphRd 68 S w B G) (hs : (G.nodes.map (·.id)).Pairwise (· < ·)) (hb : G.nodes.length ≤ 1099511627776) (hp : ∀ x ∈ G.nodes, x.props.length ≤ 1099511627776) :
    Calls Tryz.prog 19 #[.pointer (some ⟨B, 0, none⟩), .int .i64 id] w (NodePost G id w) := by
  have HGR := Lib.hid h; have HS := Lib.hid hs; have HBD := Lib.hid hb; have HPL := Lib.hid hp
  have hB : B < w.heap.size := by obtain ⟨_, _, h, _⟩ := h; exact blk_lt h
  have HW := Lib.hid (show ∀ o1, Grow w (w.alloc o1) from fun o1 => (Grow.rfl' w).allocd o1)
  have HNB := Lib.hid (show ∀ o1 w', Grow (w.alloc o1) w' → w'.heap[w.heap.size]? = some o1 from fun o1 w' hg => by rw [hg.heapEq (by simp)]; exact heap_alloc_new w _)
  clear h hs hb hp
  go_enter Tryz.func19, Tryz.ntmps19
  go_wp2_with fail
  refine (graphNodeR S B G id _ (HGR.out.grow (HW.out _)) HS.out HBD.out).mono ?_
  rintro e w2 ⟨i, b, rfl, hbs, hg⟩
  have HG2 := Lib.hid ((HW.out _).step hg)
  have hnb := HNB.out _ _ hg
  have hnl := blk_lt hnb
  have z0 : w2.cell? ⟨w.heap.size, 0, none⟩ = some (.int .i64 0) := by rw [blk_cell hnb]; rfl
  have zf0 := blk_free hnb 0
  have z1 : w2.cell? ⟨w.heap.size, 1, none⟩ = some (.string ByteArray.empty) := by rw [blk_cell hnb]; rfl
  have zf1 := blk_free hnb 1
  have z2 : w2.cell? ⟨w.heap.size, 2, none⟩ = some (.slice none 0 0) := by rw [blk_cell hnb]; rfl
  have zf2 := blk_free hnb 2
  have HBS := Lib.hid hbs; have HG02 := Lib.hid hg; have HNB2 := Lib.hid hnb
  clear hbs hg hnb
  cases b
  · have HF := Lib.hid (find_none (fun x : PNode => x.id) (idx_any (fun x : PNode => x.id) HBS.out).symm)
    go_wp2
    refine bodyPost_ret (v := .tuple #[.agg #[.int .i64 0, .string ByteArray.empty, .slice none 0 0], .bool false]) ?_ rfl ⟨.inl ⟨HF.out, rfl⟩, ?_⟩
    · rw [results_cell_tmp rfl]
      go_simp
      rfl
    · exact (((HG2.out).setd (p := ⟨w.heap.size, 0, none⟩) (Nat.le_refl _) _).setd (p := ⟨w.heap.size, 1, none⟩) (Nat.le_refl _) _).setd (p := ⟨w.heap.size, 2, none⟩) (Nat.le_refl _) _
  · obtain ⟨x, hx, hxi⟩ := idx_at (fun x : PNode => x.id) HBS.out
    have hil : i < G.nodes.length := (List.getElem?_eq_some_iff.1 hx).1
    have HF := Lib.hid (find_idx (fun x : PNode => x.id) HS.out hx hxi)
    have hpl := HPL.out x (List.mem_of_getElem? hx)
    have HPX := Lib.hid hpl
    obtain ⟨na, nc, ea, ec, hB2, g0, g1, g2, hn, he⟩ := (HGR.out.grow HG2.out).read
    obtain ⟨_, _, hv, hle, hcm, hA⟩ := SlR.open hn
    simp only [Value.slice.injEq, true_and] at hv
    obtain ⟨rfl, rfl⟩ := hv
    obtain ⟨ba, oa, ra, rfl, hSa, hba, hRa, hca⟩ := hA i x hx
    obtain ⟨pva, hba', a0, a1, a2, hpa⟩ := hRa.at hba (Grow.rfl' w2) hca
    have HPA := Lib.hid hpa
    obtain ⟨pa, pc, rfl⟩ := hpa.isSlice
    unfold maxLen at hcm
    clear hca hRa hSa hba hA hn he hpa hpl hx hxi
    go_wp2_with fail
    refine (cloneProp _ _ x.props _ (HPA.out.grow ((Grow.rfl' w2).allocd _)) HPX.out).mono ?_
    rintro e w3 ⟨v3, ob3, rfl, hown, hg, hob⟩
    obtain ⟨a3, c3, rfl⟩ : ∃ a c, v3 = .slice a x.props.length c := by obtain ⟨_, _, _, h⟩ := hown; obtain ⟨oa, cap, h, _⟩ := h.isSlice; exact ⟨oa, cap, h⟩
    have hb3 : w3.heap[w2.heap.size]? = some (.cells #[.int .i64 x.id, .string x.typ, .slice pa x.props.length pc] 59 (0, 0)) := by rw [hg.heapEq (by simp)]; exact heap_alloc_new w2 _
    have hl3 := blk_lt hb3
    have y0 : w3.cell? ⟨w2.heap.size, 0, none⟩ = some (.int .i64 x.id) := by rw [blk_cell hb3]; rfl
    have yf0 := blk_free hb3 0
    have y1 : w3.cell? ⟨w2.heap.size, 1, none⟩ = some (.string x.typ) := by rw [blk_cell hb3]; rfl
    have yf1 := blk_free hb3 1
    have y2 : w3.cell? ⟨w2.heap.size, 2, none⟩ = some (.slice pa x.props.length pc) := by rw [blk_cell hb3]; rfl
    have yf2 := blk_free hb3 2
    have hr3 := HNB.out _ w3 ((HG02.out.allocd _).step hg)
    have hlr := blk_lt hr3
    have x0 : w3.cell? ⟨w.heap.size, 0, none⟩ = some (.int .i64 0) := by rw [blk_cell hr3]; rfl
    have xf0 := blk_free hr3 0
    have x1 : w3.cell? ⟨w.heap.size, 1, none⟩ = some (.string ByteArray.empty) := by rw [blk_cell hr3]; rfl
    have xf1 := blk_free hr3 1
    have x2 : w3.cell? ⟨w.heap.size, 2, none⟩ = some (.slice none 0 0) := by rw [blk_cell hr3]; rfl
    have xf2 := blk_free hr3 2
    have HG3 := Lib.hid ((HG2.out.allocd _).step hg)
    have HP3 := Lib.hid (show PropsR (fun b => w2.heap.size + 1 ≤ b) w3 (.slice a3 x.props.length c3) x.props from hown.toSl (S := fun b => w2.heap.size + 1 ≤ b) (fun g hgg => by have := hob g hgg; simpa using this))
    have HS2 := Lib.hid HG2.out.size
    clear hown hg hob hb3 hr3
    go_wp2
    refine bodyPost_ret (v := .tuple #[.agg #[.int .i64 x.id, .string x.typ, .slice a3 x.props.length c3], .bool true]) ?_ rfl ⟨.inr ⟨x, _, HF.out, rfl, ?_⟩, ?_⟩
    · rw [results_cell_tmp rfl]
      go_simp
    · refine (HP3.out.mod (F := fun b => b = w.heap.size ∨ b = w2.heap.size) (((((Mod.rfl' _ w3).setd (p := ⟨w2.heap.size, 2, none⟩) (.inl (.inr rfl)) _).setd (p := ⟨w.heap.size, 0, none⟩) (.inl (.inl rfl)) _).setd (p := ⟨w.heap.size, 1, none⟩) (.inl (.inl rfl)) _).setd (p := ⟨w.heap.size, 2, none⟩) (.inl (.inl rfl)) _) (fun b hb h => ?_)).sub (fun b hb => ?_)
      · have := HS2.out
        have hx : w.heap.size < w2.heap.size := hnl
        rcases h with h | h <;> omega
      · have := HS2.out
        omega
    · have h2 := HS2.out
      exact (((HG3.out.setd (p := ⟨w2.heap.size, 2, none⟩) h2 _).setd (p := ⟨w.heap.size, 0, none⟩) (Nat.le_refl _) _).setd (p := ⟨w.heap.size, 1, none⟩) (Nat.le_refl _) _).setd (p := ⟨w.heap.size, 2, none⟩) (Nat.le_refl _) _

set_option maxHeartbeats 400000 in
theorem graphEdgesNil (w : World) : Calls Tryz.prog 32 #[.pointer none] w fun e w' => e = .returned (.slice none 0 0) ∧ w = w' := by
  go_enter Tryz.func32, Tryz.ntmps32
  go_wp2
  go_ret
  exact ⟨rfl, rfl⟩
/-- what Edge tells -/
def EdgePost (G : PGraph) (id : Int) (w : World) (e : Ending) (w' : World) : Prop :=
  (((G.edges.find? fun x => decide (x.id = id)) = none ∧ e = .returned (.tuple #[.agg #[.int .i64 0, .string ByteArray.empty, .int .i64 0, .int .i64 0, .slice none 0 0], .bool false])) ∨
   ∃ x pv, (G.edges.find? fun x => decide (x.id = id)) = some x ∧ e = .returned (.tuple #[.agg #[.int .i64 x.id, .string x.typ, .int .i64 x.from_, .int .i64 x.to_, pv], .bool true]) ∧ PropsR (fun b => w.heap.size ≤ b) w' pv x.props) ∧ Grow w w'

set_option maxRecDepth 100000 in
set_option maxHeartbeats 2000000 in
theorem graphGetEdge (S : Nat → Prop) (B : Nat) (G : PGraph) (id : Int) (w : World) (h : GraphRd 68 S w B G) (hs : (G.edges.map (·.id)).Pairwise (· < ·)) (hb : G.edges.length ≤ 1099511627776) (hp : ∀ x ∈ G.edges, x.props.length ≤ 1099511627776) :
    Calls Tryz.prog 33 #[.pointer (some ⟨B, 0, none⟩), .int .i64 id] w (EdgePost G id w) := by
  have HGR := Lib.hid h; have HS := Lib.hid hs; have HBD := Lib.hid hb; have HPL := Lib.hid hp
  have hB : B < w.heap.size := by obtain ⟨_, _, h, _⟩ := h; exact blk_lt h
  have HW := Lib.hid (show ∀ o1, Grow w (w.alloc o1) from fun o1 => (Grow.rfl' w).allocd o1)
  have HNB := Lib.hid (show ∀ o1 w', Grow (w.alloc o1) w' → w'.heap[w.heap.size]? = some o1 from fun o1 w' hg => by rw [hg.heapEq (by simp)]; exact heap_alloc_new w _)
  clear h hs hb hp
  go_enter Tryz.func33, Tryz.ntmps33
  go_wp2_with fail
  refine (graphEdgeR S B G id _ (HGR.out.grow (HW.out _)) HS.out HBD.out).mono ?_
  rintro e w2 ⟨i, b, rfl, hbs, hg⟩
  have HG2 := Lib.hid ((HW.out _).step hg)
  have hnb := HNB.out _ _ hg
  have hnl := blk_lt hnb
  have z0 : w2.cell? ⟨w.heap.size, 0, none⟩ = some (.int .i64 0) := by rw [blk_cell hnb]; rfl
  have zf0 := blk_free hnb 0
  have z1 : w2.cell? ⟨w.heap.size, 1, none⟩ = some (.string ByteArray.empty) := by rw [blk_cell hnb]; rfl
  have zf1 := blk_free hnb 1
  have z2 : w2.cell? ⟨w.heap.size, 2, none⟩ = some (.int .i64 0) := by rw [blk_cell hnb]; rfl
  have zf2 := blk_free hnb 2
  have z3 : w2.cell? ⟨w.heap.size, 3, none⟩ = some (.int .i64 0) := by rw [blk_cell hnb]; rfl
  have zf3 := blk_free hnb 3
  have z4 : w2.cell? ⟨w.heap.size, 4, none⟩ = some (.slice none 0 0) := by rw [blk_cell hnb]; rfl
  have zf4 := blk_free hnb 4
  have HBS := Lib.hid hbs; have HG02 := Lib.hid hg; have HNB2 := Lib.hid hnb
  clear hbs hg hnb
  cases b
  · have HF := Lib.hid (find_none (fun x : PEdge => x.id) (idx_any (fun x : PEdge => x.id) HBS.out).symm)
    go_wp2
    refine bodyPost_ret (v := .tuple #[.agg #[.int .i64 0, .string ByteArray.empty, .int .i64 0, .int .i64 0, .slice none 0 0], .bool false]) ?_ rfl ⟨.inl ⟨HF.out, rfl⟩, ?_⟩
    · rw [results_cell_tmp rfl]
      go_simp
      rfl
    · exact (((((HG2.out).setd (p := ⟨w.heap.size, 0, none⟩) (Nat.le_refl _) _).setd (p := ⟨w.heap.size, 1, none⟩) (Nat.le_refl _) _).setd (p := ⟨w.heap.size, 2, none⟩) (Nat.le_refl _) _).setd (p := ⟨w.heap.size, 3, none⟩) (Nat.le_refl _) _).setd (p := ⟨w.heap.size, 4, none⟩) (Nat.le_refl _) _
  · obtain ⟨x, hx, hxi⟩ := idx_at (fun x : PEdge => x.id) HBS.out
    have hil : i < G.edges.length := (List.getElem?_eq_some_iff.1 hx).1
    have HF := Lib.hid (find_idx (fun x : PEdge => x.id) HS.out hx hxi)
    have hpl := HPL.out x (List.mem_of_getElem? hx)
    have HPX := Lib.hid hpl
    obtain ⟨na, nc, ea, ec, hB2, g0, g1, g2, hn, he⟩ := (HGR.out.grow HG2.out).read
    obtain ⟨_, _, hv, hle, hcm, hA⟩ := SlR.open he
    simp only [Value.slice.injEq, true_and] at hv
    obtain ⟨rfl, rfl⟩ := hv
    obtain ⟨ba, oa, ra, rfl, hSa, hba, hRa, hca⟩ := hA i x hx
    obtain ⟨pva, hba', a0, a1, a2, a3, a4, hpa⟩ := hRa.at hba (Grow.rfl' w2) hca
    have HPA := Lib.hid hpa
    obtain ⟨pa, pc, rfl⟩ := hpa.isSlice
    unfold maxLen at hcm
    clear hca hRa hSa hba hA hn he hpa hpl hx hxi
    go_wp2_with fail
    refine (cloneProp _ _ x.props _ (HPA.out.grow ((Grow.rfl' w2).allocd _)) HPX.out).mono ?_
    rintro e w3 ⟨v3, ob3, rfl, hown, hg, hob⟩
    obtain ⟨a3, c3, rfl⟩ : ∃ a c, v3 = .slice a x.props.length c := by obtain ⟨_, _, _, h⟩ := hown; obtain ⟨oa, cap, h, _⟩ := h.isSlice; exact ⟨oa, cap, h⟩
    have hb3 : w3.heap[w2.heap.size]? = some (.cells #[.int .i64 x.id, .string x.typ, .int .i64 x.from_, .int .i64 x.to_, .slice pa x.props.length pc] 79 (0, 0)) := by rw [hg.heapEq (by simp)]; exact heap_alloc_new w2 _
    have hl3 := blk_lt hb3
    have y0 : w3.cell? ⟨w2.heap.size, 0, none⟩ = some (.int .i64 x.id) := by rw [blk_cell hb3]; rfl
    have yf0 := blk_free hb3 0
    have y1 : w3.cell? ⟨w2.heap.size, 1, none⟩ = some (.string x.typ) := by rw [blk_cell hb3]; rfl
    have yf1 := blk_free hb3 1
    have y2 : w3.cell? ⟨w2.heap.size, 2, none⟩ = some (.int .i64 x.from_) := by rw [blk_cell hb3]; rfl
    have yf2 := blk_free hb3 2
    have y3 : w3.cell? ⟨w2.heap.size, 3, none⟩ = some (.int .i64 x.to_) := by rw [blk_cell hb3]; rfl
    have yf3 := blk_free hb3 3
    have y4 : w3.cell? ⟨w2.heap.size, 4, none⟩ = some (.slice pa x.props.length pc) := by rw [blk_cell hb3]; rfl
    have yf4 := blk_free hb3 4
    have hr3 := HNB.out _ w3 ((HG02.out.allocd _).step hg)
    have hlr := blk_lt hr3
    have x0 : w3.cell? ⟨w.heap.size, 0, none⟩ = some (.int .i64 0) := by rw [blk_cell hr3]; rfl
    have xf0 := blk_free hr3 0
    have x1 : w3.cell? ⟨w.heap.size, 1, none⟩ = some (.string ByteArray.empty) := by rw [blk_cell hr3]; rfl
    have xf1 := blk_free hr3 1
    have x2 : w3.cell? ⟨w.heap.size, 2, none⟩ = some (.int .i64 0) := by rw [blk_cell hr3]; rfl
    have xf2 := blk_free hr3 2
    have x3 : w3.cell? ⟨w.heap.size, 3, none⟩ = some (.int .i64 0) := by rw [blk_cell hr3]; rfl
    have xf3 := blk_free hr3 3
    have x4 : w3.cell? ⟨w.heap.size, 4, none⟩ = some (.slice none 0 0) := by rw [blk_cell hr3]; rfl
    have xf4 := blk_free hr3 4
    have HG3 := Lib.hid ((HG2.out.allocd _).step hg)
    have HP3 := Lib.hid (show PropsR (fun b => w2.heap.size + 1 ≤ b) w3 (.slice a3 x.props.length c3) x.props from hown.toSl (S := fun b => w2.heap.size + 1 ≤ b) (fun g hgg => by have := hob g hgg; simpa using this))
    have HS2 := Lib.hid HG2.out.size
    clear hown hg hob hb3 hr3
    go_wp2
    refine bodyPost_ret (v := .tuple #[.agg #[.int .i64 x.id, .string x.typ, .int .i64 x.from_, .int .i64 x.to_, .slice a3 x.props.length c3], .bool true]) ?_ rfl ⟨.inr ⟨x, _, HF.out, rfl, ?_⟩, ?_⟩
    · rw [results_cell_tmp rfl]
      go_simp
    · refine (HP3.out.mod (F := fun b => b = w.heap.size ∨ b = w2.heap.size) (((((((Mod.rfl' _ w3).setd (p := ⟨w2.heap.size, 4, none⟩) (.inl (.inr rfl)) _).setd (p := ⟨w.heap.size, 0, none⟩) (.inl (.inl rfl)) _).setd (p := ⟨w.heap.size, 1, none⟩) (.inl (.inl rfl)) _).setd (p := ⟨w.heap.size, 2, none⟩) (.inl (.inl rfl)) _).setd (p := ⟨w.heap.size, 3, none⟩) (.inl (.inl rfl)) _).setd (p := ⟨w.heap.size, 4, none⟩) (.inl (.inl rfl)) _) (fun b hb h => ?_)).sub (fun b hb => ?_)
      · have := HS2.out
        have hx : w.heap.size < w2.heap.size := hnl
        rcases h with h | h <;> omega
      · have := HS2.out
        omega
    · have h2 := HS2.out
      exact (((((HG3.out.setd (p := ⟨w2.heap.size, 4, none⟩) h2 _).setd (p := ⟨w.heap.size, 0, none⟩) (Nat.le_refl _) _).setd (p := ⟨w.heap.size, 1, none⟩) (Nat.le_refl _) _).setd (p := ⟨w.heap.size, 2, none⟩) (Nat.le_refl _) _).setd (p := ⟨w.heap.size, 3, none⟩) (Nat.le_refl _) _).setd (p := ⟨w.heap.size, 4, none⟩) (Nat.le_refl _) _
end Go.Hg
