/- graph.Node, Edge: what has an Id, copied; graph.Scan, some, Out, In; rule.Form, hedgerowref15.Form. Conditions: those that each theorem names. -/
import Derived.Test.YtanijffgogpmdaaGreatChkD
import Derived.Test.YtanijffgogpmdaaGreatChkB
namespace Go.Hg
open Go.RowKit Go.Proofs

set_option maxHeartbeats 400000 in
theorem graphNodesNil (w : World) : Calls Tryz.prog 20 #[.pointer none] w fun e w' => e = .returned (.slice none 0 0) ∧ w = w' := by
  go_enter Tryz.func20, Tryz.ntmps20
  go_wp2
  go_ret
  exact ⟨rfl, rfl⟩
/-- what Node tells -/
def NodePost (G : PGraph) (id : Int) (w : World) (e : Ending) (w' : World) : Prop :=
  (((G.nodes.find? fun x => decide (x.id = id)) = none ∧ e = .returned (.tuple #[.agg #[.int .i64 0, .string ByteArray.empty, .slice none 0 0], .bool false])) ∨
   ∃ x pv, (G.nodes.find? fun x => decide (x.id = id)) = some x ∧ e = .returned (.tuple #[.agg #[.int .i64 x.id, .string x.typ, pv], .bool true]) ∧ PropsR (fun b => w.heap.size ≤ b) w' pv x.props) ∧ Grow w w'

set_option maxRecDepth 100000 in
set_option maxHeartbeats 2000000 in
theorem graphGetNode (S : Nat → Prop) (B : Nat) (G : PGraph) (id : Int) (w : World) (h : GraphRd 120 S w B G) (hs : (G.nodes.map (·.id)).Pairwise (· < ·)) (hb : G.nodes.length ≤ 1099511627776) (hp : ∀ x ∈ G.nodes, x.props.length ≤ 1099511627776) :
    Calls Tryz.prog 53 #[.pointer (some ⟨B, 0, none⟩), .int .i64 id] w (NodePost G id w) := by
  have HGR := Lib.hid h; have HS := Lib.hid hs; have HBD := Lib.hid hb; have HPL := Lib.hid hp
  have hB : B < w.heap.size := by obtain ⟨_, _, h, _⟩ := h; exact blk_lt h
  have HW := Lib.hid (show ∀ o1, Grow w (w.alloc o1) from fun o1 => (Grow.rfl' w).allocd o1)
  have HNB := Lib.hid (show ∀ o1 w', Grow (w.alloc o1) w' → w'.heap[w.heap.size]? = some o1 from fun o1 w' hg => by rw [hg.heapEq (by simp)]; exact heap_alloc_new w _)
  clear h hs hb hp
  go_enter Tryz.func53, Tryz.ntmps53
  go_wp2_with fail
  refine (graphNodeR S B G id _ (HGR.out.grow (HW.out _)) HS.out HBD.out).mono ?_
  rintro e w2 ⟨i, b, rfl, hbs, hg⟩
  have HG2 := Lib.hid ((HW.out _).step hg)
  have hnb := HNB.out _ _ hg
  have hnl := blk_lt hnb
  have z0 : w2.cell? ⟨w.heap.size, 0, none⟩ = some (.int .i64 0) := by rw [blk_cell hnb]; rfl
  have zf0 := blk_free hnb 0
  have z1 : w2.cell? ⟨w.heap.size, 1, none⟩ = some (.string ByteArray.empty) := by rw [blk_cell hnb]; rfl
  have zf1 := blk_free hnb 1
  have z2 : w2.cell? ⟨w.heap.size, 2, none⟩ = some (.slice none 0 0) := by rw [blk_cell hnb]; rfl
  have zf2 := blk_free hnb 2
  have HBS := Lib.hid hbs; have HG02 := Lib.hid hg; have HNB2 := Lib.hid hnb
  clear hbs hg hnb
  cases b
  · have HF := Lib.hid (find_none (fun x : PNode => x.id) (idx_any (fun x : PNode => x.id) HBS.out).symm)
    go_wp2
    refine bodyPost_ret (v := .tuple #[.agg #[.int .i64 0, .string ByteArray.empty, .slice none 0 0], .bool false]) ?_ rfl ⟨.inl ⟨HF.out, rfl⟩, ?_⟩
    · rw [results_cell_tmp rfl]
      go_simp
      rfl
    · exact (((HG2.out).setd (p := ⟨w.heap.size, 0, none⟩) (Nat.le_refl _) _).setd (p := ⟨w.heap.size, 1, none⟩) (Nat.le_refl _) _).setd (p := ⟨w.heap.size, 2, none⟩) (Nat.le_refl _) _
  · obtain ⟨x, hx, hxi⟩ := idx_at (fun x : PNode => x.id) HBS.out
    have hil : i < G.nodes.length := (List.getElem?_eq_some_iff.1 hx).1
    have HF := Lib.hid (find_idx (fun x : PNode => x.id) HS.out hx hxi)
    have hpl := HPL.out x (List.mem_of_getElem? hx)
    have HPX := Lib.hid hpl
    obtain ⟨na, nc, ea, ec, hB2, g0, g1, g2, hn, he⟩ := (HGR.out.grow HG2.out).read
    obtain ⟨_, _, hv, hle, hcm, hA⟩ := SlR.open hn
    simp only [Value.slice.injEq, true_and] at hv
    obtain ⟨rfl, rfl⟩ := hv
    obtain ⟨ba, oa, ra, rfl, hSa, hba, hRa, hca⟩ := hA i x hx
    obtain ⟨pva, hba', a0, a1, a2, hpa⟩ := hRa.at hba (Grow.rfl' w2) hca
    have HPA := Lib.hid hpa
    obtain ⟨pa, pc, rfl⟩ := hpa.isSlice
    unfold maxLen at hcm
    clear hca hRa hSa hba hA hn he hpa hpl hx hxi
    go_wp2_with fail
    refine (cloneProp _ _ x.props _ (HPA.out.grow ((Grow.rfl' w2).allocd _)) HPX.out).mono ?_
    rintro e w3 ⟨v3, ob3, rfl, hown, hg, hob⟩
    obtain ⟨a3, c3, rfl⟩ : ∃ a c, v3 = .slice a x.props.length c := by obtain ⟨_, _, _, h⟩ := hown; obtain ⟨oa, cap, h, _⟩ := h.isSlice; exact ⟨oa, cap, h⟩
    have hb3 : w3.heap[w2.heap.size]? = some (.cells #[.int .i64 x.id, .string x.typ, .slice pa x.props.length pc] 94 (0, 0)) := by rw [hg.heapEq (by simp)]; exact heap_alloc_new w2 _
    have hl3 := blk_lt hb3
    have y0 : w3.cell? ⟨w2.heap.size, 0, none⟩ = some (.int .i64 x.id) := by rw [blk_cell hb3]; rfl
    have yf0 := blk_free hb3 0
    have y1 : w3.cell? ⟨w2.heap.size, 1, none⟩ = some (.string x.typ) := by rw [blk_cell hb3]; rfl
    have yf1 := blk_free hb3 1
    have y2 : w3.cell? ⟨w2.heap.size, 2, none⟩ = some (.slice pa x.props.length pc) := by rw [blk_cell hb3]; rfl
    have yf2 := blk_free hb3 2
    have hr3 := HNB.out _ w3 ((HG02.out.allocd _).step hg)
    have hlr := blk_lt hr3
    have x0 : w3.cell? ⟨w.heap.size, 0, none⟩ = some (.int .i64 0) := by rw [blk_cell hr3]; rfl
    have xf0 := blk_free hr3 0
    have x1 : w3.cell? ⟨w.heap.size, 1, none⟩ = some (.string ByteArray.empty) := by rw [blk_cell hr3]; rfl
    have xf1 := blk_free hr3 1
    have x2 : w3.cell? ⟨w.heap.size, 2, none⟩ = some (.slice none 0 0) := by rw [blk_cell hr3]; rfl
    have xf2 := blk_free hr3 2
    have HG3 := Lib.hid ((HG2.out.allocd _).step hg)
    have HP3 := Lib.hid (show PropsR (fun b => w2.heap.size + 1 ≤ b) w3 (.slice a3 x.props.length c3) x.props from hown.toSl (S := fun b => w2.heap.size + 1 ≤ b) (fun g hgg => by have := hob g hgg; simpa using this))
    have HS2 := Lib.hid HG2.out.size
    clear hown hg hob hb3 hr3
    go_wp2
    refine bodyPost_ret (v := .tuple #[.agg #[.int .i64 x.id, .string x.typ, .slice a3 x.props.length c3], .bool true]) ?_ rfl ⟨.inr ⟨x, _, HF.out, rfl, ?_⟩, ?_⟩
    · rw [results_cell_tmp rfl]
      go_simp
    · refine (HP3.out.mod (F := fun b => b = w.heap.size ∨ b = w2.heap.size) (((((Mod.rfl' _ w3).setd (p := ⟨w2.heap.size, 2, none⟩) (.inl (.inr rfl)) _).setd (p := ⟨w.heap.size, 0, none⟩) (.inl (.inl rfl)) _).setd (p := ⟨w.heap.size, 1, none⟩) (.inl (.inl rfl)) _).setd (p := ⟨w.heap.size, 2, none⟩) (.inl (.inl rfl)) _) (fun b hb h => ?_)).sub (fun b hb => ?_)
      · have := HS2.out
        have hx : w.heap.size < w2.heap.size := hnl
        rcases h with h | h <;> omega
      · have := HS2.out
        omega
    · have h2 := HS2.out
      exact (((HG3.out.setd (p := ⟨w2.heap.size, 2, none⟩) h2 _).setd (p := ⟨w.heap.size, 0, none⟩) (Nat.le_refl _) _).setd (p := ⟨w.heap.size, 1, none⟩) (Nat.le_refl _) _).setd (p := ⟨w.heap.size, 2, none⟩) (Nat.le_refl _) _

set_option maxHeartbeats 400000 in
theorem graphEdgesNil (w : World) : Calls Tryz.prog 21 #[.pointer none] w fun e w' => e = .returned (.slice none 0 0) ∧ w = w' := by
  go_enter Tryz.func21, Tryz.ntmps21
  go_wp2
  go_ret
  exact ⟨rfl, rfl⟩
/-- what Edge tells -/
def EdgePost (G : PGraph) (id : Int) (w : World) (e : Ending) (w' : World) : Prop :=
  (((G.edges.find? fun x => decide (x.id = id)) = none ∧ e = .returned (.tuple #[.agg #[.int .i64 0, .string ByteArray.empty, .int .i64 0, .int .i64 0, .slice none 0 0], .bool false])) ∨
   ∃ x pv, (G.edges.find? fun x => decide (x.id = id)) = some x ∧ e = .returned (.tuple #[.agg #[.int .i64 x.id, .string x.typ, .int .i64 x.from_, .int .i64 x.to_, pv], .bool true]) ∧ PropsR (fun b => w.heap.size ≤ b) w' pv x.props) ∧ Grow w w'

set_option maxRecDepth 100000 in
set_option maxHeartbeats 2000000 in
theorem graphGetEdge (S : Nat → Prop) (B : Nat) (G : PGraph) (id : Int) (w : World) (h : GraphRd 120 S w B G) (hs : (G.edges.map (·.id)).Pairwise (· < ·)) (hb : G.edges.length ≤ 1099511627776) (hp : ∀ x ∈ G.edges, x.props.length ≤ 1099511627776) :
    Calls Tryz.prog 127 #[.pointer (some ⟨B, 0, none⟩), .int .i64 id] w (EdgePost G id w) := by
  have HGR := Lib.hid h; have HS := Lib.hid hs; have HBD := Lib.hid hb; have HPL := Lib.hid hp
  have hB : B < w.heap.size := by obtain ⟨_, _, h, _⟩ := h; exact blk_lt h
  have HW := Lib.hid (show ∀ o1, Grow w (w.alloc o1) from fun o1 => (Grow.rfl' w).allocd o1)
  have HNB := Lib.hid (show ∀ o1 w', Grow (w.alloc o1) w' → w'.heap[w.heap.size]? = some o1 from fun o1 w' hg => by rw [hg.heapEq (by simp)]; exact heap_alloc_new w _)
  clear h hs hb hp
  go_enter Tryz.func127, Tryz.ntmps127
  go_wp2_with fail
  refine (graphEdgeR S B G id _ (HGR.out.grow (HW.out _)) HS.out HBD.out).mono ?_
  rintro e w2 ⟨i, b, rfl, hbs, hg⟩
  have HG2 := Lib.hid ((HW.out _).step hg)
  have hnb := HNB.out _ _ hg
  have hnl := blk_lt hnb
  have z0 : w2.cell? ⟨w.heap.size, 0, none⟩ = some (.int .i64 0) := by rw [blk_cell hnb]; rfl
  have zf0 := blk_free hnb 0
  have z1 : w2.cell? ⟨w.heap.size, 1, none⟩ = some (.string ByteArray.empty) := by rw [blk_cell hnb]; rfl
  have zf1 := blk_free hnb 1
  have z2 : w2.cell? ⟨w.heap.size, 2, none⟩ = some (.int .i64 0) := by rw [blk_cell hnb]; rfl
  have zf2 := blk_free hnb 2
  have z3 : w2.cell? ⟨w.heap.size, 3, none⟩ = some (.int .i64 0) := by rw [blk_cell hnb]; rfl
  have zf3 := blk_free hnb 3
  have z4 : w2.cell? ⟨w.heap.size, 4, none⟩ = some (.slice none 0 0) := by rw [blk_cell hnb]; rfl
  have zf4 := blk_free hnb 4
  have HBS := Lib.hid hbs; have HG02 := Lib.hid hg; have HNB2 := Lib.hid hnb
  clear hbs hg hnb
  cases b
  · have HF := Lib.hid (find_none (fun x : PEdge => x.id) (idx_any (fun x : PEdge => x.id) HBS.out).symm)
    go_wp2
    refine bodyPost_ret (v := .tuple #[.agg #[.int .i64 0, .string ByteArray.empty, .int .i64 0, .int .i64 0, .slice none 0 0], .bool false]) ?_ rfl ⟨.inl ⟨HF.out, rfl⟩, ?_⟩
    · rw [results_cell_tmp rfl]
      go_simp
      rfl
    · exact (((((HG2.out).setd (p := ⟨w.heap.size, 0, none⟩) (Nat.le_refl _) _).setd (p := ⟨w.heap.size, 1, none⟩) (Nat.le_refl _) _).setd (p := ⟨w.heap.size, 2, none⟩) (Nat.le_refl _) _).setd (p := ⟨w.heap.size, 3, none⟩) (Nat.le_refl _) _).setd (p := ⟨w.heap.size, 4, none⟩) (Nat.le_refl _) _
  · obtain ⟨x, hx, hxi⟩ := idx_at (fun x : PEdge => x.id) HBS.out
    have hil : i < G.edges.length := (List.getElem?_eq_some_iff.1 hx).1
    have HF := Lib.hid (find_idx (fun x : PEdge => x.id) HS.out hx hxi)
    have hpl := HPL.out x (List.mem_of_getElem? hx)
    have HPX := Lib.hid hpl
    obtain ⟨na, nc, ea, ec, hB2, g0, g1, g2, hn, he⟩ := (HGR.out.grow HG2.out).read
    obtain ⟨_, _, hv, hle, hcm, hA⟩ := SlR.open he
    simp only [Value.slice.injEq, true_and] at hv
    obtain ⟨rfl, rfl⟩ := hv
    obtain ⟨ba, oa, ra, rfl, hSa, hba, hRa, hca⟩ := hA i x hx
    obtain ⟨pva, hba', a0, a1, a2, a3, a4, hpa⟩ := hRa.at hba (Grow.rfl' w2) hca
    have HPA := Lib.hid hpa
    obtain ⟨pa, pc, rfl⟩ := hpa.isSlice
    unfold maxLen at hcm
    clear hca hRa hSa hba hA hn he hpa hpl hx hxi
    go_wp2_with fail
    refine (cloneProp _ _ x.props _ (HPA.out.grow ((Grow.rfl' w2).allocd _)) HPX.out).mono ?_
    rintro e w3 ⟨v3, ob3, rfl, hown, hg, hob⟩
    obtain ⟨a3, c3, rfl⟩ : ∃ a c, v3 = .slice a x.props.length c := by obtain ⟨_, _, _, h⟩ := hown; obtain ⟨oa, cap, h, _⟩ := h.isSlice; exact ⟨oa, cap, h⟩
    have hb3 : w3.heap[w2.heap.size]? = some (.cells #[.int .i64 x.id, .string x.typ, .int .i64 x.from_, .int .i64 x.to_, .slice pa x.props.length pc] 98 (0, 0)) := by rw [hg.heapEq (by simp)]; exact heap_alloc_new w2 _
    have hl3 := blk_lt hb3
    have y0 : w3.cell? ⟨w2.heap.size, 0, none⟩ = some (.int .i64 x.id) := by rw [blk_cell hb3]; rfl
    have yf0 := blk_free hb3 0
    have y1 : w3.cell? ⟨w2.heap.size, 1, none⟩ = some (.string x.typ) := by rw [blk_cell hb3]; rfl
    have yf1 := blk_free hb3 1
    have y2 : w3.cell? ⟨w2.heap.size, 2, none⟩ = some (.int .i64 x.from_) := by rw [blk_cell hb3]; rfl
    have yf2 := blk_free hb3 2
    have y3 : w3.cell? ⟨w2.heap.size, 3, none⟩ = some (.int .i64 x.to_) := by rw [blk_cell hb3]; rfl
    have yf3 := blk_free hb3 3
    have y4 : w3.cell? ⟨w2.heap.size, 4, none⟩ = some (.slice pa x.props.length pc) := by rw [blk_cell hb3]; rfl
    have yf4 := blk_free hb3 4
    have hr3 := HNB.out _ w3 ((HG02.out.allocd _).step hg)
    have hlr := blk_lt hr3
    have x0 : w3.cell? ⟨w.heap.size, 0, none⟩ = some (.int .i64 0) := by rw [blk_cell hr3]; rfl
    have xf0 := blk_free hr3 0
    have x1 : w3.cell? ⟨w.heap.size, 1, none⟩ = some (.string ByteArray.empty) := by rw [blk_cell hr3]; rfl
    have xf1 := blk_free hr3 1
    have x2 : w3.cell? ⟨w.heap.size, 2, none⟩ = some (.int .i64 0) := by rw [blk_cell hr3]; rfl
    have xf2 := blk_free hr3 2
    have x3 : w3.cell? ⟨w.heap.size, 3, none⟩ = some (.int .i64 0) := by rw [blk_cell hr3]; rfl
    have xf3 := blk_free hr3 3
    have x4 : w3.cell? ⟨w.heap.size, 4, none⟩ = some (.slice none 0 0) := by rw [blk_cell hr3]; rfl
    have xf4 := blk_free hr3 4
    have HG3 := Lib.hid ((HG2.out.allocd _).step hg)
    have HP3 := Lib.hid (show PropsR (fun b => w2.heap.size + 1 ≤ b) w3 (.slice a3 x.props.length c3) x.props from hown.toSl (S := fun b => w2.heap.size + 1 ≤ b) (fun g hgg => by have := hob g hgg; simpa using this))
    have HS2 := Lib.hid HG2.out.size
    clear hown hg hob hb3 hr3
    go_wp2
    refine bodyPost_ret (v := .tuple #[.agg #[.int .i64 x.id, .string x.typ, .int .i64 x.from_, .int .i64 x.to_, .slice a3 x.props.length c3], .bool true]) ?_ rfl ⟨.inr ⟨x, _, HF.out, rfl, ?_⟩, ?_⟩
    · rw [results_cell_tmp rfl]
      go_simp
    · refine (HP3.out.mod (F := fun b => b = w.heap.size ∨ b = w2.heap.size) (((((((Mod.rfl' _ w3).setd (p := ⟨w2.heap.size, 4, none⟩) (.inl (.inr rfl)) _).setd (p := ⟨w.heap.size, 0, none⟩) (.inl (.inl rfl)) _).setd (p := ⟨w.heap.size, 1, none⟩) (.inl (.inl rfl)) _).setd (p := ⟨w.heap.size, 2, none⟩) (.inl (.inl rfl)) _).setd (p := ⟨w.heap.size, 3, none⟩) (.inl (.inl rfl)) _).setd (p := ⟨w.heap.size, 4, none⟩) (.inl (.inl rfl)) _) (fun b hb h => ?_)).sub (fun b hb => ?_)
      · have := HS2.out
        have hx : w.heap.size < w2.heap.size := hnl
        rcases h with h | h <;> omega
      · have := HS2.out
        omega
    · have h2 := HS2.out
      exact (((((HG3.out.setd (p := ⟨w2.heap.size, 4, none⟩) h2 _).setd (p := ⟨w.heap.size, 0, none⟩) (Nat.le_refl _) _).setd (p := ⟨w.heap.size, 1, none⟩) (Nat.le_refl _) _).setd (p := ⟨w.heap.size, 2, none⟩) (Nat.le_refl _) _).setd (p := ⟨w.heap.size, 3, none⟩) (Nat.le_refl _) _).setd (p := ⟨w.heap.size, 4, none⟩) (Nat.le_refl _) _
end Go.Hg

namespace Go.Hg
open Go.RowKit Go.Proofs

theorem infoInt : (Tryz.prog.info? 2).map (fun i => (i.zero, i.size, i.bytes)) = some (some (.int .i64 0), 1, 8) := by kernel_rfl
/-- a row of numbers that is one's own -/
def IdsO (w : World) (v : Value) (l : List Int) (ob : Option Nat) : Prop := OwnS w 2 1 v l.length (l.map (.int .i64 ·)) ob
abbrev IdsR (S : Nat → Prop) (w : World) (v : Value) (l : List Int) : Prop := SlR S w 1 (fun n r => r = [Value.int .i64 n]) v l
theorem IdsO.toR {w : World} {v : Value} {l : List Int} {ob : Option Nat} (h : IdsO w v l ob) {S : Nat → Prop} (hS : ∀ g, ob = some g → S g) : IdsR S w v l := by
  have h2 : OwnL w 2 1 (fun n r => r = [Value.int .i64 n]) v l ob := ⟨l.map (fun n => [.int .i64 n]), by simp, fun k x r hx hr => by
    rw [List.getElem?_map, hx] at hr
    simp only [Option.map_some, Option.some.injEq] at hr
    subst hr
    exact ⟨rfl, rfl⟩, by
    have e : (l.map fun n => [Value.int .i64 n]).flatten = l.map (.int .i64 ·) := by
      clear h hS
      induction l with
      | nil => rfl
      | cons a t ih => simp [ih]
    rw [e]; exact h⟩
  exact h2.toSl hS
theorem empty_beq (s : ByteArray) : (s.toList == ([] : List UInt8)) = decide (s = ByteArray.empty) := by
  rw [← isEmpty_iff]
  cases s.toList <;> rfl
theorem one1 (a : Value) (ha : a.oneCell' = true) : ∀ u ∈ [a], u.oneCell' = true := by
  intro u hu; simp only [List.mem_cons, List.not_mem_nil, or_false] at hu; subst hu; exact ha
/-- what a list of Ids is told as -/
def IdsPost (l : List Int) (w : World) (e : Ending) (w' : World) : Prop := ∃ v ob, e = .returned v ∧ IdsO w' v l ob ∧ (∀ b, ob = some b → w.heap.size ≤ b) ∧ Grow w w'

def scanG (G : PGraph) (typ : ByteArray) : List Int := (G.nodes.filter fun x => decide (x.typ = typ)).map (·.id)
def someE (l : List PEdge) (typ : ByteArray) (p : PEdge → Bool) : List Int := (l.filter fun x => (decide (typ = ByteArray.empty) || decide (x.typ = typ)) && p x).map (·.id)

end Go.Hg

namespace Go.Hg
open Go.RowKit Go.Proofs

theorem valNameB {s : ByteArray} {b : Bool} (hb : decide (NameOk s) = b) (w : World) : Calls Tryz.prog 101 #[.string s] w fun e w' => e = .returned (.bool b) ∧ w' = w := hb ▸ valName s w
theorem valNameG {s : ByteArray} {b : Bool} (hb : decide (NameOk s) = b) (w : World) : Calls Tryz.prog 101 #[.string s] w fun e w' => e = .returned (.bool b) ∧ Grow w w' :=
  (valNameB hb w).mono fun _ _ ⟨h1, h2⟩ => ⟨h1, h2 ▸ Grow.rfl' _⟩
theorem refNameB {s : ByteArray} {b : Bool} (hb : decide (NameOk s) = b) (w : World) : Calls Tryz.prog 59 #[.string s] w fun e w' => e = .returned (.bool b) ∧ w' = w := hb ▸ refName s w
theorem refNameG {s : ByteArray} {b : Bool} (hb : decide (NameOk s) = b) (w : World) : Calls Tryz.prog 59 #[.string s] w fun e w' => e = .returned (.bool b) ∧ Grow w w' :=
  (refNameB hb w).mono fun _ _ ⟨h1, h2⟩ => ⟨h1, h2 ▸ Grow.rfl' _⟩

set_option maxRecDepth 100000 in
set_option maxHeartbeats 2000000 in
theorem ruleForm1 (id : Int) (typ name from_ to_ : ByteArray) (n state : Int) (w : World) : Calls Tryz.prog 50 #[(PRule.mk id 1 typ name from_ to_ n state).args] w fun e w' => e = .returned (.bool (formR ⟨id, 1, typ, name, from_, to_, n, state⟩)) ∧ Grow w w' := by
  have HW := Lib.hid (show ∀ o1, Grow w (w.alloc o1) from fun o1 => (Grow.rfl' w).allocd o1)
  have HB := Lib.hid (show ∀ o1 w', Grow (w.alloc o1) w' → w'.heap[w.heap.size]? = some o1 from fun o1 w' hg => by rw [hg.heapEq (by simp)]; exact heap_alloc_new w _)
  generalize hF : formR _ = F
  have HF := Lib.hid hF; clear hF
  obtain ⟨b1, hb1⟩ : ∃ b, decide (NameOk typ) = b := ⟨_, rfl⟩
  obtain ⟨b2, hb2⟩ : ∃ b, decide (NameOk name) = b := ⟨_, rfl⟩
  obtain ⟨b3, hb3⟩ : ∃ b, decide (NameOk from_) = b := ⟨_, rfl⟩
  obtain ⟨b4, hb4⟩ : ∃ b, decide (NameOk to_) = b := ⟨_, rfl⟩
  have H1 := Lib.hid hb1; have H2 := Lib.hid hb2; have H3 := Lib.hid hb3; have H4 := Lib.hid hb4
  clear hb1 hb2 hb3 hb4
  have HK := Lib.hid True.intro
  cases b1
  · skip
    have hF : F = false := by rw [← HF.out]; simp [formR, H1.out, *]
    subst hF
    clear HF
    go_enter Tryz.func50, Tryz.ntmps50
    go_wp2_with fail
    refine wp_region_grow (by kernel_rfl) (by kernel_rfl) ?_
    repeat (go_big_quiet_step (first | (go_at_call 101; with_reducible exact calls_gr (valNameG H1.out _)) | (go_at_call 101; with_reducible exact calls_gr (valNameG H2.out _))))
    refine wpQuiet_nil ?_
    intro w2 hw2
    have HB2 := HB.out _ w2 hw2
    have hbl := blk_lt HB2
    have c1 : w2.cell? ⟨w.heap.size, 1, none⟩ = some (.int .i64 1) := by rw [blk_cell HB2]; rfl
    have c3 : w2.cell? ⟨w.heap.size, 3, none⟩ = some (.string name) := by rw [blk_cell HB2]; rfl
    have c4 : w2.cell? ⟨w.heap.size, 4, none⟩ = some (.string from_) := by rw [blk_cell HB2]; rfl
    have c5 : w2.cell? ⟨w.heap.size, 5, none⟩ = some (.string to_) := by rw [blk_cell HB2]; rfl
    have c6 : w2.cell? ⟨w.heap.size, 6, none⟩ = some (.int .i64 n) := by rw [blk_cell HB2]; rfl
    have HG2 := Lib.hid ((HW.out _).step hw2)
    clear HB2 hw2
    go_wp2_with (go_at_call 101; (first | (with_reducible refine (valNameB H1.out _).mono ?_) | (with_reducible refine (valNameB H2.out _).mono ?_) | (with_reducible refine (valNameB H3.out _).mono ?_) | (with_reducible refine (valNameB H4.out _).mono ?_)); rintro e w3 ⟨rfl, rfl⟩)
    go_ret
    exact ⟨rfl, HG2.out⟩
  · skip
    cases b2
    · skip
      have hF : F = false := by rw [← HF.out]; simp [formR, H1.out, H2.out, *]
      subst hF
      clear HF
      go_enter Tryz.func50, Tryz.ntmps50
      go_wp2_with fail
      refine wp_region_grow (by kernel_rfl) (by kernel_rfl) ?_
      repeat (go_big_quiet_step (first | (go_at_call 101; with_reducible exact calls_gr (valNameG H1.out _)) | (go_at_call 101; with_reducible exact calls_gr (valNameG H2.out _))))
      refine wpQuiet_nil ?_
      intro w2 hw2
      have HB2 := HB.out _ w2 hw2
      have hbl := blk_lt HB2
      have c1 : w2.cell? ⟨w.heap.size, 1, none⟩ = some (.int .i64 1) := by rw [blk_cell HB2]; rfl
      have c3 : w2.cell? ⟨w.heap.size, 3, none⟩ = some (.string name) := by rw [blk_cell HB2]; rfl
      have c4 : w2.cell? ⟨w.heap.size, 4, none⟩ = some (.string from_) := by rw [blk_cell HB2]; rfl
      have c5 : w2.cell? ⟨w.heap.size, 5, none⟩ = some (.string to_) := by rw [blk_cell HB2]; rfl
      have c6 : w2.cell? ⟨w.heap.size, 6, none⟩ = some (.int .i64 n) := by rw [blk_cell HB2]; rfl
      have HG2 := Lib.hid ((HW.out _).step hw2)
      clear HB2 hw2
      go_wp2_with (go_at_call 101; (first | (with_reducible refine (valNameB H1.out _).mono ?_) | (with_reducible refine (valNameB H2.out _).mono ?_) | (with_reducible refine (valNameB H3.out _).mono ?_) | (with_reducible refine (valNameB H4.out _).mono ?_)); rintro e w3 ⟨rfl, rfl⟩)
      go_ret
      exact ⟨rfl, HG2.out⟩
    · skip
      by_cases h2 : from_ = ByteArray.empty
      · skip
        subst h2
        by_cases h3 : to_ = ByteArray.empty
        · skip
          subst h3
          by_cases h4 : n = 0
          · skip
            subst h4
            have hF : F = true := by rw [← HF.out]; simp [formR, H1.out, H2.out, *]
            subst hF
            clear HF
            go_enter Tryz.func50, Tryz.ntmps50
            go_wp2_with fail
            refine wp_region_grow (by kernel_rfl) (by kernel_rfl) ?_
            repeat (go_big_quiet_step (first | (go_at_call 101; with_reducible exact calls_gr (valNameG H1.out _)) | (go_at_call 101; with_reducible exact calls_gr (valNameG H2.out _))))
            refine wpQuiet_nil ?_
            intro w2 hw2
            have HB2 := HB.out _ w2 hw2
            have hbl := blk_lt HB2
            have c1 : w2.cell? ⟨w.heap.size, 1, none⟩ = some (.int .i64 1) := by rw [blk_cell HB2]; rfl
            have c3 : w2.cell? ⟨w.heap.size, 3, none⟩ = some (.string name) := by rw [blk_cell HB2]; rfl
            have c4 : w2.cell? ⟨w.heap.size, 4, none⟩ = some (.string ByteArray.empty) := by rw [blk_cell HB2]; rfl
            have c5 : w2.cell? ⟨w.heap.size, 5, none⟩ = some (.string ByteArray.empty) := by rw [blk_cell HB2]; rfl
            have c6 : w2.cell? ⟨w.heap.size, 6, none⟩ = some (.int .i64 0) := by rw [blk_cell HB2]; rfl
            have HG2 := Lib.hid ((HW.out _).step hw2)
            clear HB2 hw2
            go_wp2_with (go_at_call 101; (first | (with_reducible refine (valNameB H1.out _).mono ?_) | (with_reducible refine (valNameB H2.out _).mono ?_) | (with_reducible refine (valNameB H3.out _).mono ?_) | (with_reducible refine (valNameB H4.out _).mono ?_)); rintro e w3 ⟨rfl, rfl⟩)
            go_ret
            exact ⟨rfl, HG2.out⟩
          · skip
            have q4 : (n == 0) = false := by simpa using h4
            have hF : F = false := by rw [← HF.out]; simp [formR, H1.out, H2.out, *]
            subst hF
            clear HF
            go_enter Tryz.func50, Tryz.ntmps50
            go_wp2_with fail
            refine wp_region_grow (by kernel_rfl) (by kernel_rfl) ?_
            repeat (go_big_quiet_step (first | (go_at_call 101; with_reducible exact calls_gr (valNameG H1.out _)) | (go_at_call 101; with_reducible exact calls_gr (valNameG H2.out _))))
            refine wpQuiet_nil ?_
            intro w2 hw2
            have HB2 := HB.out _ w2 hw2
            have hbl := blk_lt HB2
            have c1 : w2.cell? ⟨w.heap.size, 1, none⟩ = some (.int .i64 1) := by rw [blk_cell HB2]; rfl
            have c3 : w2.cell? ⟨w.heap.size, 3, none⟩ = some (.string name) := by rw [blk_cell HB2]; rfl
            have c4 : w2.cell? ⟨w.heap.size, 4, none⟩ = some (.string ByteArray.empty) := by rw [blk_cell HB2]; rfl
            have c5 : w2.cell? ⟨w.heap.size, 5, none⟩ = some (.string ByteArray.empty) := by rw [blk_cell HB2]; rfl
            have c6 : w2.cell? ⟨w.heap.size, 6, none⟩ = some (.int .i64 n) := by rw [blk_cell HB2]; rfl
            have HG2 := Lib.hid ((HW.out _).step hw2)
            clear HB2 hw2
            go_wp2_with (go_at_call 101; (first | (with_reducible refine (valNameB H1.out _).mono ?_) | (with_reducible refine (valNameB H2.out _).mono ?_) | (with_reducible refine (valNameB H3.out _).mono ?_) | (with_reducible refine (valNameB H4.out _).mono ?_)); rintro e w3 ⟨rfl, rfl⟩)
            go_ret
            exact ⟨rfl, HG2.out⟩
        · skip
          have q3 : (to_.toList == ([] : List UInt8)) = false := (empty_beq to_).trans (decide_eq_false h3)
          have hF : F = false := by rw [← HF.out]; simp [formR, H1.out, H2.out, *]
          subst hF
          clear HF
          go_enter Tryz.func50, Tryz.ntmps50
          go_wp2_with fail
          refine wp_region_grow (by kernel_rfl) (by kernel_rfl) ?_
          repeat (go_big_quiet_step (first | (go_at_call 101; with_reducible exact calls_gr (valNameG H1.out _)) | (go_at_call 101; with_reducible exact calls_gr (valNameG H2.out _))))
          refine wpQuiet_nil ?_
          intro w2 hw2
          have HB2 := HB.out _ w2 hw2
          have hbl := blk_lt HB2
          have c1 : w2.cell? ⟨w.heap.size, 1, none⟩ = some (.int .i64 1) := by rw [blk_cell HB2]; rfl
          have c3 : w2.cell? ⟨w.heap.size, 3, none⟩ = some (.string name) := by rw [blk_cell HB2]; rfl
          have c4 : w2.cell? ⟨w.heap.size, 4, none⟩ = some (.string ByteArray.empty) := by rw [blk_cell HB2]; rfl
          have c5 : w2.cell? ⟨w.heap.size, 5, none⟩ = some (.string to_) := by rw [blk_cell HB2]; rfl
          have c6 : w2.cell? ⟨w.heap.size, 6, none⟩ = some (.int .i64 n) := by rw [blk_cell HB2]; rfl
          have HG2 := Lib.hid ((HW.out _).step hw2)
          clear HB2 hw2
          go_wp2_with (go_at_call 101; (first | (with_reducible refine (valNameB H1.out _).mono ?_) | (with_reducible refine (valNameB H2.out _).mono ?_) | (with_reducible refine (valNameB H3.out _).mono ?_) | (with_reducible refine (valNameB H4.out _).mono ?_)); rintro e w3 ⟨rfl, rfl⟩)
          go_ret
          exact ⟨rfl, HG2.out⟩
      · skip
        have q2 : (from_.toList == ([] : List UInt8)) = false := (empty_beq from_).trans (decide_eq_false h2)
        have hF : F = false := by rw [← HF.out]; simp [formR, H1.out, H2.out, *]
        subst hF
        clear HF
        go_enter Tryz.func50, Tryz.ntmps50
        go_wp2_with fail
        refine wp_region_grow (by kernel_rfl) (by kernel_rfl) ?_
        repeat (go_big_quiet_step (first | (go_at_call 101; with_reducible exact calls_gr (valNameG H1.out _)) | (go_at_call 101; with_reducible exact calls_gr (valNameG H2.out _))))
        refine wpQuiet_nil ?_
        intro w2 hw2
        have HB2 := HB.out _ w2 hw2
        have hbl := blk_lt HB2
        have c1 : w2.cell? ⟨w.heap.size, 1, none⟩ = some (.int .i64 1) := by rw [blk_cell HB2]; rfl
        have c3 : w2.cell? ⟨w.heap.size, 3, none⟩ = some (.string name) := by rw [blk_cell HB2]; rfl
        have c4 : w2.cell? ⟨w.heap.size, 4, none⟩ = some (.string from_) := by rw [blk_cell HB2]; rfl
        have c5 : w2.cell? ⟨w.heap.size, 5, none⟩ = some (.string to_) := by rw [blk_cell HB2]; rfl
        have c6 : w2.cell? ⟨w.heap.size, 6, none⟩ = some (.int .i64 n) := by rw [blk_cell HB2]; rfl
        have HG2 := Lib.hid ((HW.out _).step hw2)
        clear HB2 hw2
        go_wp2_with (go_at_call 101; (first | (with_reducible refine (valNameB H1.out _).mono ?_) | (with_reducible refine (valNameB H2.out _).mono ?_) | (with_reducible refine (valNameB H3.out _).mono ?_) | (with_reducible refine (valNameB H4.out _).mono ?_)); rintro e w3 ⟨rfl, rfl⟩)
        go_ret
        exact ⟨rfl, HG2.out⟩
set_option maxRecDepth 100000 in
set_option maxHeartbeats 2000000 in
theorem ruleForm2 (id : Int) (typ name from_ to_ : ByteArray) (n state : Int) (w : World) : Calls Tryz.prog 50 #[(PRule.mk id 2 typ name from_ to_ n state).args] w fun e w' => e = .returned (.bool (formR ⟨id, 2, typ, name, from_, to_, n, state⟩)) ∧ Grow w w' := by
  have HW := Lib.hid (show ∀ o1, Grow w (w.alloc o1) from fun o1 => (Grow.rfl' w).allocd o1)
  have HB := Lib.hid (show ∀ o1 w', Grow (w.alloc o1) w' → w'.heap[w.heap.size]? = some o1 from fun o1 w' hg => by rw [hg.heapEq (by simp)]; exact heap_alloc_new w _)
  generalize hF : formR _ = F
  have HF := Lib.hid hF; clear hF
  obtain ⟨b1, hb1⟩ : ∃ b, decide (NameOk typ) = b := ⟨_, rfl⟩
  obtain ⟨b2, hb2⟩ : ∃ b, decide (NameOk name) = b := ⟨_, rfl⟩
  obtain ⟨b3, hb3⟩ : ∃ b, decide (NameOk from_) = b := ⟨_, rfl⟩
  obtain ⟨b4, hb4⟩ : ∃ b, decide (NameOk to_) = b := ⟨_, rfl⟩
  have H1 := Lib.hid hb1; have H2 := Lib.hid hb2; have H3 := Lib.hid hb3; have H4 := Lib.hid hb4
  clear hb1 hb2 hb3 hb4
  have HK := Lib.hid True.intro
  cases b1
  · skip
    have hF : F = false := by rw [← HF.out]; simp [formR, H1.out, *]
    subst hF
    clear HF
    go_enter Tryz.func50, Tryz.ntmps50
    go_wp2_with fail
    refine wp_region_grow (by kernel_rfl) (by kernel_rfl) ?_
    repeat (go_big_quiet_step (first | (go_at_call 101; with_reducible exact calls_gr (valNameG H1.out _)) | (go_at_call 101; with_reducible exact calls_gr (valNameG H2.out _))))
    refine wpQuiet_nil ?_
    intro w2 hw2
    have HB2 := HB.out _ w2 hw2
    have hbl := blk_lt HB2
    have c1 : w2.cell? ⟨w.heap.size, 1, none⟩ = some (.int .i64 2) := by rw [blk_cell HB2]; rfl
    have c3 : w2.cell? ⟨w.heap.size, 3, none⟩ = some (.string name) := by rw [blk_cell HB2]; rfl
    have c4 : w2.cell? ⟨w.heap.size, 4, none⟩ = some (.string from_) := by rw [blk_cell HB2]; rfl
    have c5 : w2.cell? ⟨w.heap.size, 5, none⟩ = some (.string to_) := by rw [blk_cell HB2]; rfl
    have c6 : w2.cell? ⟨w.heap.size, 6, none⟩ = some (.int .i64 n) := by rw [blk_cell HB2]; rfl
    have HG2 := Lib.hid ((HW.out _).step hw2)
    clear HB2 hw2
    go_wp2_with (go_at_call 101; (first | (with_reducible refine (valNameB H1.out _).mono ?_) | (with_reducible refine (valNameB H2.out _).mono ?_) | (with_reducible refine (valNameB H3.out _).mono ?_) | (with_reducible refine (valNameB H4.out _).mono ?_)); rintro e w3 ⟨rfl, rfl⟩)
    go_ret
    exact ⟨rfl, HG2.out⟩
  · skip
    cases b2
    · skip
      have hF : F = false := by rw [← HF.out]; simp [formR, H1.out, H2.out, *]
      subst hF
      clear HF
      go_enter Tryz.func50, Tryz.ntmps50
      go_wp2_with fail
      refine wp_region_grow (by kernel_rfl) (by kernel_rfl) ?_
      repeat (go_big_quiet_step (first | (go_at_call 101; with_reducible exact calls_gr (valNameG H1.out _)) | (go_at_call 101; with_reducible exact calls_gr (valNameG H2.out _))))
      refine wpQuiet_nil ?_
      intro w2 hw2
      have HB2 := HB.out _ w2 hw2
      have hbl := blk_lt HB2
      have c1 : w2.cell? ⟨w.heap.size, 1, none⟩ = some (.int .i64 2) := by rw [blk_cell HB2]; rfl
      have c3 : w2.cell? ⟨w.heap.size, 3, none⟩ = some (.string name) := by rw [blk_cell HB2]; rfl
      have c4 : w2.cell? ⟨w.heap.size, 4, none⟩ = some (.string from_) := by rw [blk_cell HB2]; rfl
      have c5 : w2.cell? ⟨w.heap.size, 5, none⟩ = some (.string to_) := by rw [blk_cell HB2]; rfl
      have c6 : w2.cell? ⟨w.heap.size, 6, none⟩ = some (.int .i64 n) := by rw [blk_cell HB2]; rfl
      have HG2 := Lib.hid ((HW.out _).step hw2)
      clear HB2 hw2
      go_wp2_with (go_at_call 101; (first | (with_reducible refine (valNameB H1.out _).mono ?_) | (with_reducible refine (valNameB H2.out _).mono ?_) | (with_reducible refine (valNameB H3.out _).mono ?_) | (with_reducible refine (valNameB H4.out _).mono ?_)); rintro e w3 ⟨rfl, rfl⟩)
      go_ret
      exact ⟨rfl, HG2.out⟩
    · skip
      by_cases h2 : from_ = ByteArray.empty
      · skip
        subst h2
        by_cases h3 : to_ = ByteArray.empty
        · skip
          subst h3
          by_cases h4 : n = 0
          · skip
            subst h4
            have hF : F = true := by rw [← HF.out]; simp [formR, H1.out, H2.out, *]
            subst hF
            clear HF
            go_enter Tryz.func50, Tryz.ntmps50
            go_wp2_with fail
            refine wp_region_grow (by kernel_rfl) (by kernel_rfl) ?_
            repeat (go_big_quiet_step (first | (go_at_call 101; with_reducible exact calls_gr (valNameG H1.out _)) | (go_at_call 101; with_reducible exact calls_gr (valNameG H2.out _))))
            refine wpQuiet_nil ?_
            intro w2 hw2
            have HB2 := HB.out _ w2 hw2
            have hbl := blk_lt HB2
            have c1 : w2.cell? ⟨w.heap.size, 1, none⟩ = some (.int .i64 2) := by rw [blk_cell HB2]; rfl
            have c3 : w2.cell? ⟨w.heap.size, 3, none⟩ = some (.string name) := by rw [blk_cell HB2]; rfl
            have c4 : w2.cell? ⟨w.heap.size, 4, none⟩ = some (.string ByteArray.empty) := by rw [blk_cell HB2]; rfl
            have c5 : w2.cell? ⟨w.heap.size, 5, none⟩ = some (.string ByteArray.empty) := by rw [blk_cell HB2]; rfl
            have c6 : w2.cell? ⟨w.heap.size, 6, none⟩ = some (.int .i64 0) := by rw [blk_cell HB2]; rfl
            have HG2 := Lib.hid ((HW.out _).step hw2)
            clear HB2 hw2
            go_wp2_with (go_at_call 101; (first | (with_reducible refine (valNameB H1.out _).mono ?_) | (with_reducible refine (valNameB H2.out _).mono ?_) | (with_reducible refine (valNameB H3.out _).mono ?_) | (with_reducible refine (valNameB H4.out _).mono ?_)); rintro e w3 ⟨rfl, rfl⟩)
            go_ret
            exact ⟨rfl, HG2.out⟩
          · skip
            have q4 : (n == 0) = false := by simpa using h4
            have hF : F = false := by rw [← HF.out]; simp [formR, H1.out, H2.out, *]
            subst hF
            clear HF
            go_enter Tryz.func50, Tryz.ntmps50
            go_wp2_with fail
            refine wp_region_grow (by kernel_rfl) (by kernel_rfl) ?_
            repeat (go_big_quiet_step (first | (go_at_call 101; with_reducible exact calls_gr (valNameG H1.out _)) | (go_at_call 101; with_reducible exact calls_gr (valNameG H2.out _))))
            refine wpQuiet_nil ?_
            intro w2 hw2
            have HB2 := HB.out _ w2 hw2
            have hbl := blk_lt HB2
            have c1 : w2.cell? ⟨w.heap.size, 1, none⟩ = some (.int .i64 2) := by rw [blk_cell HB2]; rfl
            have c3 : w2.cell? ⟨w.heap.size, 3, none⟩ = some (.string name) := by rw [blk_cell HB2]; rfl
            have c4 : w2.cell? ⟨w.heap.size, 4, none⟩ = some (.string ByteArray.empty) := by rw [blk_cell HB2]; rfl
            have c5 : w2.cell? ⟨w.heap.size, 5, none⟩ = some (.string ByteArray.empty) := by rw [blk_cell HB2]; rfl
            have c6 : w2.cell? ⟨w.heap.size, 6, none⟩ = some (.int .i64 n) := by rw [blk_cell HB2]; rfl
            have HG2 := Lib.hid ((HW.out _).step hw2)
            clear HB2 hw2
            go_wp2_with (go_at_call 101; (first | (with_reducible refine (valNameB H1.out _).mono ?_) | (with_reducible refine (valNameB H2.out _).mono ?_) | (with_reducible refine (valNameB H3.out _).mono ?_) | (with_reducible refine (valNameB H4.out _).mono ?_)); rintro e w3 ⟨rfl, rfl⟩)
            go_ret
            exact ⟨rfl, HG2.out⟩
        · skip
          have q3 : (to_.toList == ([] : List UInt8)) = false := (empty_beq to_).trans (decide_eq_false h3)
          have hF : F = false := by rw [← HF.out]; simp [formR, H1.out, H2.out, *]
          subst hF
          clear HF
          go_enter Tryz.func50, Tryz.ntmps50
          go_wp2_with fail
          refine wp_region_grow (by kernel_rfl) (by kernel_rfl) ?_
          repeat (go_big_quiet_step (first | (go_at_call 101; with_reducible exact calls_gr (valNameG H1.out _)) | (go_at_call 101; with_reducible exact calls_gr (valNameG H2.out _))))
          refine wpQuiet_nil ?_
          intro w2 hw2
          have HB2 := HB.out _ w2 hw2
          have hbl := blk_lt HB2
          have c1 : w2.cell? ⟨w.heap.size, 1, none⟩ = some (.int .i64 2) := by rw [blk_cell HB2]; rfl
          have c3 : w2.cell? ⟨w.heap.size, 3, none⟩ = some (.string name) := by rw [blk_cell HB2]; rfl
          have c4 : w2.cell? ⟨w.heap.size, 4, none⟩ = some (.string ByteArray.empty) := by rw [blk_cell HB2]; rfl
          have c5 : w2.cell? ⟨w.heap.size, 5, none⟩ = some (.string to_) := by rw [blk_cell HB2]; rfl
          have c6 : w2.cell? ⟨w.heap.size, 6, none⟩ = some (.int .i64 n) := by rw [blk_cell HB2]; rfl
          have HG2 := Lib.hid ((HW.out _).step hw2)
          clear HB2 hw2
          go_wp2_with (go_at_call 101; (first | (with_reducible refine (valNameB H1.out _).mono ?_) | (with_reducible refine (valNameB H2.out _).mono ?_) | (with_reducible refine (valNameB H3.out _).mono ?_) | (with_reducible refine (valNameB H4.out _).mono ?_)); rintro e w3 ⟨rfl, rfl⟩)
          go_ret
          exact ⟨rfl, HG2.out⟩
      · skip
        have q2 : (from_.toList == ([] : List UInt8)) = false := (empty_beq from_).trans (decide_eq_false h2)
        have hF : F = false := by rw [← HF.out]; simp [formR, H1.out, H2.out, *]
        subst hF
        clear HF
        go_enter Tryz.func50, Tryz.ntmps50
        go_wp2_with fail
        refine wp_region_grow (by kernel_rfl) (by kernel_rfl) ?_
        repeat (go_big_quiet_step (first | (go_at_call 101; with_reducible exact calls_gr (valNameG H1.out _)) | (go_at_call 101; with_reducible exact calls_gr (valNameG H2.out _))))
        refine wpQuiet_nil ?_
        intro w2 hw2
        have HB2 := HB.out _ w2 hw2
        have hbl := blk_lt HB2
        have c1 : w2.cell? ⟨w.heap.size, 1, none⟩ = some (.int .i64 2) := by rw [blk_cell HB2]; rfl
        have c3 : w2.cell? ⟨w.heap.size, 3, none⟩ = some (.string name) := by rw [blk_cell HB2]; rfl
        have c4 : w2.cell? ⟨w.heap.size, 4, none⟩ = some (.string from_) := by rw [blk_cell HB2]; rfl
        have c5 : w2.cell? ⟨w.heap.size, 5, none⟩ = some (.string to_) := by rw [blk_cell HB2]; rfl
        have c6 : w2.cell? ⟨w.heap.size, 6, none⟩ = some (.int .i64 n) := by rw [blk_cell HB2]; rfl
        have HG2 := Lib.hid ((HW.out _).step hw2)
        clear HB2 hw2
        go_wp2_with (go_at_call 101; (first | (with_reducible refine (valNameB H1.out _).mono ?_) | (with_reducible refine (valNameB H2.out _).mono ?_) | (with_reducible refine (valNameB H3.out _).mono ?_) | (with_reducible refine (valNameB H4.out _).mono ?_)); rintro e w3 ⟨rfl, rfl⟩)
        go_ret
        exact ⟨rfl, HG2.out⟩
set_option maxRecDepth 100000 in
set_option maxHeartbeats 2000000 in
theorem ruleForm3 (id : Int) (typ name from_ to_ : ByteArray) (n state : Int) (w : World) : Calls Tryz.prog 50 #[(PRule.mk id 3 typ name from_ to_ n state).args] w fun e w' => e = .returned (.bool (formR ⟨id, 3, typ, name, from_, to_, n, state⟩)) ∧ Grow w w' := by
  have HW := Lib.hid (show ∀ o1, Grow w (w.alloc o1) from fun o1 => (Grow.rfl' w).allocd o1)
  have HB := Lib.hid (show ∀ o1 w', Grow (w.alloc o1) w' → w'.heap[w.heap.size]? = some o1 from fun o1 w' hg => by rw [hg.heapEq (by simp)]; exact heap_alloc_new w _)
  generalize hF : formR _ = F
  have HF := Lib.hid hF; clear hF
  obtain ⟨b1, hb1⟩ : ∃ b, decide (NameOk typ) = b := ⟨_, rfl⟩
  obtain ⟨b2, hb2⟩ : ∃ b, decide (NameOk name) = b := ⟨_, rfl⟩
  obtain ⟨b3, hb3⟩ : ∃ b, decide (NameOk from_) = b := ⟨_, rfl⟩
  obtain ⟨b4, hb4⟩ : ∃ b, decide (NameOk to_) = b := ⟨_, rfl⟩
  have H1 := Lib.hid hb1; have H2 := Lib.hid hb2; have H3 := Lib.hid hb3; have H4 := Lib.hid hb4
  clear hb1 hb2 hb3 hb4
  have HK := Lib.hid True.intro
  cases b1
  · skip
    have hF : F = false := by rw [← HF.out]; simp [formR, H1.out, *]
    subst hF
    clear HF
    go_enter Tryz.func50, Tryz.ntmps50
    go_wp2_with fail
    refine wp_region_grow (by kernel_rfl) (by kernel_rfl) ?_
    repeat (go_big_quiet_step (first | (go_at_call 101; with_reducible exact calls_gr (valNameG H1.out _)) | (go_at_call 101; with_reducible exact calls_gr (valNameG H2.out _))))
    refine wpQuiet_nil ?_
    intro w2 hw2
    have HB2 := HB.out _ w2 hw2
    have hbl := blk_lt HB2
    have c1 : w2.cell? ⟨w.heap.size, 1, none⟩ = some (.int .i64 3) := by rw [blk_cell HB2]; rfl
    have c3 : w2.cell? ⟨w.heap.size, 3, none⟩ = some (.string name) := by rw [blk_cell HB2]; rfl
    have c4 : w2.cell? ⟨w.heap.size, 4, none⟩ = some (.string from_) := by rw [blk_cell HB2]; rfl
    have c5 : w2.cell? ⟨w.heap.size, 5, none⟩ = some (.string to_) := by rw [blk_cell HB2]; rfl
    have c6 : w2.cell? ⟨w.heap.size, 6, none⟩ = some (.int .i64 n) := by rw [blk_cell HB2]; rfl
    have HG2 := Lib.hid ((HW.out _).step hw2)
    clear HB2 hw2
    go_wp2_with (go_at_call 101; (first | (with_reducible refine (valNameB H1.out _).mono ?_) | (with_reducible refine (valNameB H2.out _).mono ?_) | (with_reducible refine (valNameB H3.out _).mono ?_) | (with_reducible refine (valNameB H4.out _).mono ?_)); rintro e w3 ⟨rfl, rfl⟩)
    go_ret
    exact ⟨rfl, HG2.out⟩
  · skip
    cases b3
    · skip
      have hF : F = false := by rw [← HF.out]; simp [formR, H1.out, H3.out, *]
      subst hF
      clear HF
      go_enter Tryz.func50, Tryz.ntmps50
      go_wp2_with fail
      refine wp_region_grow (by kernel_rfl) (by kernel_rfl) ?_
      repeat (go_big_quiet_step (first | (go_at_call 101; with_reducible exact calls_gr (valNameG H1.out _)) | (go_at_call 101; with_reducible exact calls_gr (valNameG H2.out _))))
      refine wpQuiet_nil ?_
      intro w2 hw2
      have HB2 := HB.out _ w2 hw2
      have hbl := blk_lt HB2
      have c1 : w2.cell? ⟨w.heap.size, 1, none⟩ = some (.int .i64 3) := by rw [blk_cell HB2]; rfl
      have c3 : w2.cell? ⟨w.heap.size, 3, none⟩ = some (.string name) := by rw [blk_cell HB2]; rfl
      have c4 : w2.cell? ⟨w.heap.size, 4, none⟩ = some (.string from_) := by rw [blk_cell HB2]; rfl
      have c5 : w2.cell? ⟨w.heap.size, 5, none⟩ = some (.string to_) := by rw [blk_cell HB2]; rfl
      have c6 : w2.cell? ⟨w.heap.size, 6, none⟩ = some (.int .i64 n) := by rw [blk_cell HB2]; rfl
      have HG2 := Lib.hid ((HW.out _).step hw2)
      clear HB2 hw2
      go_wp2_with (go_at_call 101; (first | (with_reducible refine (valNameB H1.out _).mono ?_) | (with_reducible refine (valNameB H2.out _).mono ?_) | (with_reducible refine (valNameB H3.out _).mono ?_) | (with_reducible refine (valNameB H4.out _).mono ?_)); rintro e w3 ⟨rfl, rfl⟩)
      go_ret
      exact ⟨rfl, HG2.out⟩
    · skip
      cases b4
      · skip
        have hF : F = false := by rw [← HF.out]; simp [formR, H1.out, H3.out, H4.out, *]
        subst hF
        clear HF
        go_enter Tryz.func50, Tryz.ntmps50
        go_wp2_with fail
        refine wp_region_grow (by kernel_rfl) (by kernel_rfl) ?_
        repeat (go_big_quiet_step (first | (go_at_call 101; with_reducible exact calls_gr (valNameG H1.out _)) | (go_at_call 101; with_reducible exact calls_gr (valNameG H2.out _))))
        refine wpQuiet_nil ?_
        intro w2 hw2
        have HB2 := HB.out _ w2 hw2
        have hbl := blk_lt HB2
        have c1 : w2.cell? ⟨w.heap.size, 1, none⟩ = some (.int .i64 3) := by rw [blk_cell HB2]; rfl
        have c3 : w2.cell? ⟨w.heap.size, 3, none⟩ = some (.string name) := by rw [blk_cell HB2]; rfl
        have c4 : w2.cell? ⟨w.heap.size, 4, none⟩ = some (.string from_) := by rw [blk_cell HB2]; rfl
        have c5 : w2.cell? ⟨w.heap.size, 5, none⟩ = some (.string to_) := by rw [blk_cell HB2]; rfl
        have c6 : w2.cell? ⟨w.heap.size, 6, none⟩ = some (.int .i64 n) := by rw [blk_cell HB2]; rfl
        have HG2 := Lib.hid ((HW.out _).step hw2)
        clear HB2 hw2
        go_wp2_with (go_at_call 101; (first | (with_reducible refine (valNameB H1.out _).mono ?_) | (with_reducible refine (valNameB H2.out _).mono ?_) | (with_reducible refine (valNameB H3.out _).mono ?_) | (with_reducible refine (valNameB H4.out _).mono ?_)); rintro e w3 ⟨rfl, rfl⟩)
        go_ret
        exact ⟨rfl, HG2.out⟩
      · skip
        by_cases h3 : name = ByteArray.empty
        · skip
          subst h3
          by_cases h4 : n = 0
          · skip
            subst h4
            have hF : F = true := by rw [← HF.out]; simp [formR, H1.out, H3.out, H4.out, *]
            subst hF
            clear HF
            go_enter Tryz.func50, Tryz.ntmps50
            go_wp2_with fail
            refine wp_region_grow (by kernel_rfl) (by kernel_rfl) ?_
            repeat (go_big_quiet_step (first | (go_at_call 101; with_reducible exact calls_gr (valNameG H1.out _)) | (go_at_call 101; with_reducible exact calls_gr (valNameG H2.out _))))
            refine wpQuiet_nil ?_
            intro w2 hw2
            have HB2 := HB.out _ w2 hw2
            have hbl := blk_lt HB2
            have c1 : w2.cell? ⟨w.heap.size, 1, none⟩ = some (.int .i64 3) := by rw [blk_cell HB2]; rfl
            have c3 : w2.cell? ⟨w.heap.size, 3, none⟩ = some (.string ByteArray.empty) := by rw [blk_cell HB2]; rfl
            have c4 : w2.cell? ⟨w.heap.size, 4, none⟩ = some (.string from_) := by rw [blk_cell HB2]; rfl
            have c5 : w2.cell? ⟨w.heap.size, 5, none⟩ = some (.string to_) := by rw [blk_cell HB2]; rfl
            have c6 : w2.cell? ⟨w.heap.size, 6, none⟩ = some (.int .i64 0) := by rw [blk_cell HB2]; rfl
            have HG2 := Lib.hid ((HW.out _).step hw2)
            clear HB2 hw2
            go_wp2_with (go_at_call 101; (first | (with_reducible refine (valNameB H1.out _).mono ?_) | (with_reducible refine (valNameB H2.out _).mono ?_) | (with_reducible refine (valNameB H3.out _).mono ?_) | (with_reducible refine (valNameB H4.out _).mono ?_)); rintro e w3 ⟨rfl, rfl⟩)
            go_ret
            exact ⟨rfl, HG2.out⟩
          · skip
            have q4 : (n == 0) = false := by simpa using h4
            have hF : F = false := by rw [← HF.out]; simp [formR, H1.out, H3.out, H4.out, *]
            subst hF
            clear HF
            go_enter Tryz.func50, Tryz.ntmps50
            go_wp2_with fail
            refine wp_region_grow (by kernel_rfl) (by kernel_rfl) ?_
            repeat (go_big_quiet_step (first | (go_at_call 101; with_reducible exact calls_gr (valNameG H1.out _)) | (go_at_call 101; with_reducible exact calls_gr (valNameG H2.out _))))
            refine wpQuiet_nil ?_
            intro w2 hw2
            have HB2 := HB.out _ w2 hw2
            have hbl := blk_lt HB2
            have c1 : w2.cell? ⟨w.heap.size, 1, none⟩ = some (.int .i64 3) := by rw [blk_cell HB2]; rfl
            have c3 : w2.cell? ⟨w.heap.size, 3, none⟩ = some (.string ByteArray.empty) := by rw [blk_cell HB2]; rfl
            have c4 : w2.cell? ⟨w.heap.size, 4, none⟩ = some (.string from_) := by rw [blk_cell HB2]; rfl
            have c5 : w2.cell? ⟨w.heap.size, 5, none⟩ = some (.string to_) := by rw [blk_cell HB2]; rfl
            have c6 : w2.cell? ⟨w.heap.size, 6, none⟩ = some (.int .i64 n) := by rw [blk_cell HB2]; rfl
            have HG2 := Lib.hid ((HW.out _).step hw2)
            clear HB2 hw2
            go_wp2_with (go_at_call 101; (first | (with_reducible refine (valNameB H1.out _).mono ?_) | (with_reducible refine (valNameB H2.out _).mono ?_) | (with_reducible refine (valNameB H3.out _).mono ?_) | (with_reducible refine (valNameB H4.out _).mono ?_)); rintro e w3 ⟨rfl, rfl⟩)
            go_ret
            exact ⟨rfl, HG2.out⟩
        · skip
          have q3 : (name.toList == ([] : List UInt8)) = false := (empty_beq name).trans (decide_eq_false h3)
          have hF : F = false := by rw [← HF.out]; simp [formR, H1.out, H3.out, H4.out, *]
          subst hF
          clear HF
          go_enter Tryz.func50, Tryz.ntmps50
          go_wp2_with fail
          refine wp_region_grow (by kernel_rfl) (by kernel_rfl) ?_
          repeat (go_big_quiet_step (first | (go_at_call 101; with_reducible exact calls_gr (valNameG H1.out _)) | (go_at_call 101; with_reducible exact calls_gr (valNameG H2.out _))))
          refine wpQuiet_nil ?_
          intro w2 hw2
          have HB2 := HB.out _ w2 hw2
          have hbl := blk_lt HB2
          have c1 : w2.cell? ⟨w.heap.size, 1, none⟩ = some (.int .i64 3) := by rw [blk_cell HB2]; rfl
          have c3 : w2.cell? ⟨w.heap.size, 3, none⟩ = some (.string name) := by rw [blk_cell HB2]; rfl
          have c4 : w2.cell? ⟨w.heap.size, 4, none⟩ = some (.string from_) := by rw [blk_cell HB2]; rfl
          have c5 : w2.cell? ⟨w.heap.size, 5, none⟩ = some (.string to_) := by rw [blk_cell HB2]; rfl
          have c6 : w2.cell? ⟨w.heap.size, 6, none⟩ = some (.int .i64 n) := by rw [blk_cell HB2]; rfl
          have HG2 := Lib.hid ((HW.out _).step hw2)
          clear HB2 hw2
          go_wp2_with (go_at_call 101; (first | (with_reducible refine (valNameB H1.out _).mono ?_) | (with_reducible refine (valNameB H2.out _).mono ?_) | (with_reducible refine (valNameB H3.out _).mono ?_) | (with_reducible refine (valNameB H4.out _).mono ?_)); rintro e w3 ⟨rfl, rfl⟩)
          go_ret
          exact ⟨rfl, HG2.out⟩
set_option maxRecDepth 100000 in
set_option maxHeartbeats 2000000 in
theorem ruleForm4 (id : Int) (typ name from_ to_ : ByteArray) (n state : Int) (w : World) : Calls Tryz.prog 50 #[(PRule.mk id 4 typ name from_ to_ n state).args] w fun e w' => e = .returned (.bool (formR ⟨id, 4, typ, name, from_, to_, n, state⟩)) ∧ Grow w w' := by
  have HW := Lib.hid (show ∀ o1, Grow w (w.alloc o1) from fun o1 => (Grow.rfl' w).allocd o1)
  have HB := Lib.hid (show ∀ o1 w', Grow (w.alloc o1) w' → w'.heap[w.heap.size]? = some o1 from fun o1 w' hg => by rw [hg.heapEq (by simp)]; exact heap_alloc_new w _)
  generalize hF : formR _ = F
  have HF := Lib.hid hF; clear hF
  obtain ⟨b1, hb1⟩ : ∃ b, decide (NameOk typ) = b := ⟨_, rfl⟩
  obtain ⟨b2, hb2⟩ : ∃ b, decide (NameOk name) = b := ⟨_, rfl⟩
  obtain ⟨b3, hb3⟩ : ∃ b, decide (NameOk from_) = b := ⟨_, rfl⟩
  obtain ⟨b4, hb4⟩ : ∃ b, decide (NameOk to_) = b := ⟨_, rfl⟩
  have H1 := Lib.hid hb1; have H2 := Lib.hid hb2; have H3 := Lib.hid hb3; have H4 := Lib.hid hb4
  clear hb1 hb2 hb3 hb4
  have HK := Lib.hid True.intro
  cases b1
  · skip
    have hF : F = false := by rw [← HF.out]; simp [formR, H1.out, *]
    subst hF
    clear HF
    go_enter Tryz.func50, Tryz.ntmps50
    go_wp2_with fail
    refine wp_region_grow (by kernel_rfl) (by kernel_rfl) ?_
    repeat (go_big_quiet_step (first | (go_at_call 101; with_reducible exact calls_gr (valNameG H1.out _)) | (go_at_call 101; with_reducible exact calls_gr (valNameG H2.out _))))
    refine wpQuiet_nil ?_
    intro w2 hw2
    have HB2 := HB.out _ w2 hw2
    have hbl := blk_lt HB2
    have c1 : w2.cell? ⟨w.heap.size, 1, none⟩ = some (.int .i64 4) := by rw [blk_cell HB2]; rfl
    have c3 : w2.cell? ⟨w.heap.size, 3, none⟩ = some (.string name) := by rw [blk_cell HB2]; rfl
    have c4 : w2.cell? ⟨w.heap.size, 4, none⟩ = some (.string from_) := by rw [blk_cell HB2]; rfl
    have c5 : w2.cell? ⟨w.heap.size, 5, none⟩ = some (.string to_) := by rw [blk_cell HB2]; rfl
    have c6 : w2.cell? ⟨w.heap.size, 6, none⟩ = some (.int .i64 n) := by rw [blk_cell HB2]; rfl
    have HG2 := Lib.hid ((HW.out _).step hw2)
    clear HB2 hw2
    go_wp2_with (go_at_call 101; (first | (with_reducible refine (valNameB H1.out _).mono ?_) | (with_reducible refine (valNameB H2.out _).mono ?_) | (with_reducible refine (valNameB H3.out _).mono ?_) | (with_reducible refine (valNameB H4.out _).mono ?_)); rintro e w3 ⟨rfl, rfl⟩)
    go_ret
    exact ⟨rfl, HG2.out⟩
  · skip
    by_cases h1 : name = ByteArray.empty
    · skip
      subst h1
      by_cases h2 : from_ = ByteArray.empty
      · skip
        subst h2
        by_cases h3 : to_ = ByteArray.empty
        · skip
          subst h3
          by_cases h4 : 0 ≤ n
          · skip
            have q4 : decide (0 ≤ n) = true := by simpa using h4
            by_cases h5 : n ≤ 1024
            · skip
              have q5 : decide (n ≤ 1024) = true := by simpa using h5
              have hF : F = true := by rw [← HF.out]; simp [formR, H1.out, *]
              subst hF
              clear HF
              go_enter Tryz.func50, Tryz.ntmps50
              go_wp2_with fail
              refine wp_region_grow (by kernel_rfl) (by kernel_rfl) ?_
              repeat (go_big_quiet_step (first | (go_at_call 101; with_reducible exact calls_gr (valNameG H1.out _)) | (go_at_call 101; with_reducible exact calls_gr (valNameG H2.out _))))
              refine wpQuiet_nil ?_
              intro w2 hw2
              have HB2 := HB.out _ w2 hw2
              have hbl := blk_lt HB2
              have c1 : w2.cell? ⟨w.heap.size, 1, none⟩ = some (.int .i64 4) := by rw [blk_cell HB2]; rfl
              have c3 : w2.cell? ⟨w.heap.size, 3, none⟩ = some (.string ByteArray.empty) := by rw [blk_cell HB2]; rfl
              have c4 : w2.cell? ⟨w.heap.size, 4, none⟩ = some (.string ByteArray.empty) := by rw [blk_cell HB2]; rfl
              have c5 : w2.cell? ⟨w.heap.size, 5, none⟩ = some (.string ByteArray.empty) := by rw [blk_cell HB2]; rfl
              have c6 : w2.cell? ⟨w.heap.size, 6, none⟩ = some (.int .i64 n) := by rw [blk_cell HB2]; rfl
              have HG2 := Lib.hid ((HW.out _).step hw2)
              clear HB2 hw2
              go_wp2_with (go_at_call 101; (first | (with_reducible refine (valNameB H1.out _).mono ?_) | (with_reducible refine (valNameB H2.out _).mono ?_) | (with_reducible refine (valNameB H3.out _).mono ?_) | (with_reducible refine (valNameB H4.out _).mono ?_)); rintro e w3 ⟨rfl, rfl⟩)
              go_ret
              exact ⟨rfl, HG2.out⟩
            · skip
              have q5 : decide (n ≤ 1024) = false := by simpa using h5
              have hF : F = false := by rw [← HF.out]; simp [formR, H1.out, *]
              subst hF
              clear HF
              go_enter Tryz.func50, Tryz.ntmps50
              go_wp2_with fail
              refine wp_region_grow (by kernel_rfl) (by kernel_rfl) ?_
              repeat (go_big_quiet_step (first | (go_at_call 101; with_reducible exact calls_gr (valNameG H1.out _)) | (go_at_call 101; with_reducible exact calls_gr (valNameG H2.out _))))
              refine wpQuiet_nil ?_
              intro w2 hw2
              have HB2 := HB.out _ w2 hw2
              have hbl := blk_lt HB2
              have c1 : w2.cell? ⟨w.heap.size, 1, none⟩ = some (.int .i64 4) := by rw [blk_cell HB2]; rfl
              have c3 : w2.cell? ⟨w.heap.size, 3, none⟩ = some (.string ByteArray.empty) := by rw [blk_cell HB2]; rfl
              have c4 : w2.cell? ⟨w.heap.size, 4, none⟩ = some (.string ByteArray.empty) := by rw [blk_cell HB2]; rfl
              have c5 : w2.cell? ⟨w.heap.size, 5, none⟩ = some (.string ByteArray.empty) := by rw [blk_cell HB2]; rfl
              have c6 : w2.cell? ⟨w.heap.size, 6, none⟩ = some (.int .i64 n) := by rw [blk_cell HB2]; rfl
              have HG2 := Lib.hid ((HW.out _).step hw2)
              clear HB2 hw2
              go_wp2_with (go_at_call 101; (first | (with_reducible refine (valNameB H1.out _).mono ?_) | (with_reducible refine (valNameB H2.out _).mono ?_) | (with_reducible refine (valNameB H3.out _).mono ?_) | (with_reducible refine (valNameB H4.out _).mono ?_)); rintro e w3 ⟨rfl, rfl⟩)
              go_ret
              exact ⟨rfl, HG2.out⟩
          · skip
            have q4 : decide (0 ≤ n) = false := by simpa using h4
            have hF : F = false := by rw [← HF.out]; simp [formR, H1.out, *]
            subst hF
            clear HF
            go_enter Tryz.func50, Tryz.ntmps50
            go_wp2_with fail
            refine wp_region_grow (by kernel_rfl) (by kernel_rfl) ?_
            repeat (go_big_quiet_step (first | (go_at_call 101; with_reducible exact calls_gr (valNameG H1.out _)) | (go_at_call 101; with_reducible exact calls_gr (valNameG H2.out _))))
            refine wpQuiet_nil ?_
            intro w2 hw2
            have HB2 := HB.out _ w2 hw2
            have hbl := blk_lt HB2
            have c1 : w2.cell? ⟨w.heap.size, 1, none⟩ = some (.int .i64 4) := by rw [blk_cell HB2]; rfl
            have c3 : w2.cell? ⟨w.heap.size, 3, none⟩ = some (.string ByteArray.empty) := by rw [blk_cell HB2]; rfl
            have c4 : w2.cell? ⟨w.heap.size, 4, none⟩ = some (.string ByteArray.empty) := by rw [blk_cell HB2]; rfl
            have c5 : w2.cell? ⟨w.heap.size, 5, none⟩ = some (.string ByteArray.empty) := by rw [blk_cell HB2]; rfl
            have c6 : w2.cell? ⟨w.heap.size, 6, none⟩ = some (.int .i64 n) := by rw [blk_cell HB2]; rfl
            have HG2 := Lib.hid ((HW.out _).step hw2)
            clear HB2 hw2
            go_wp2_with (go_at_call 101; (first | (with_reducible refine (valNameB H1.out _).mono ?_) | (with_reducible refine (valNameB H2.out _).mono ?_) | (with_reducible refine (valNameB H3.out _).mono ?_) | (with_reducible refine (valNameB H4.out _).mono ?_)); rintro e w3 ⟨rfl, rfl⟩)
            go_ret
            exact ⟨rfl, HG2.out⟩
        · skip
          have q3 : (to_.toList == ([] : List UInt8)) = false := (empty_beq to_).trans (decide_eq_false h3)
          have hF : F = false := by rw [← HF.out]; simp [formR, H1.out, *]
          subst hF
          clear HF
          go_enter Tryz.func50, Tryz.ntmps50
          go_wp2_with fail
          refine wp_region_grow (by kernel_rfl) (by kernel_rfl) ?_
          repeat (go_big_quiet_step (first | (go_at_call 101; with_reducible exact calls_gr (valNameG H1.out _)) | (go_at_call 101; with_reducible exact calls_gr (valNameG H2.out _))))
          refine wpQuiet_nil ?_
          intro w2 hw2
          have HB2 := HB.out _ w2 hw2
          have hbl := blk_lt HB2
          have c1 : w2.cell? ⟨w.heap.size, 1, none⟩ = some (.int .i64 4) := by rw [blk_cell HB2]; rfl
          have c3 : w2.cell? ⟨w.heap.size, 3, none⟩ = some (.string ByteArray.empty) := by rw [blk_cell HB2]; rfl
          have c4 : w2.cell? ⟨w.heap.size, 4, none⟩ = some (.string ByteArray.empty) := by rw [blk_cell HB2]; rfl
          have c5 : w2.cell? ⟨w.heap.size, 5, none⟩ = some (.string to_) := by rw [blk_cell HB2]; rfl
          have c6 : w2.cell? ⟨w.heap.size, 6, none⟩ = some (.int .i64 n) := by rw [blk_cell HB2]; rfl
          have HG2 := Lib.hid ((HW.out _).step hw2)
          clear HB2 hw2
          go_wp2_with (go_at_call 101; (first | (with_reducible refine (valNameB H1.out _).mono ?_) | (with_reducible refine (valNameB H2.out _).mono ?_) | (with_reducible refine (valNameB H3.out _).mono ?_) | (with_reducible refine (valNameB H4.out _).mono ?_)); rintro e w3 ⟨rfl, rfl⟩)
          go_ret
          exact ⟨rfl, HG2.out⟩
      · skip
        have q2 : (from_.toList == ([] : List UInt8)) = false := (empty_beq from_).trans (decide_eq_false h2)
        have hF : F = false := by rw [← HF.out]; simp [formR, H1.out, *]
        subst hF
        clear HF
        go_enter Tryz.func50, Tryz.ntmps50
        go_wp2_with fail
        refine wp_region_grow (by kernel_rfl) (by kernel_rfl) ?_
        repeat (go_big_quiet_step (first | (go_at_call 101; with_reducible exact calls_gr (valNameG H1.out _)) | (go_at_call 101; with_reducible exact calls_gr (valNameG H2.out _))))
        refine wpQuiet_nil ?_
        intro w2 hw2
        have HB2 := HB.out _ w2 hw2
        have hbl := blk_lt HB2
        have c1 : w2.cell? ⟨w.heap.size, 1, none⟩ = some (.int .i64 4) := by rw [blk_cell HB2]; rfl
        have c3 : w2.cell? ⟨w.heap.size, 3, none⟩ = some (.string ByteArray.empty) := by rw [blk_cell HB2]; rfl
        have c4 : w2.cell? ⟨w.heap.size, 4, none⟩ = some (.string from_) := by rw [blk_cell HB2]; rfl
        have c5 : w2.cell? ⟨w.heap.size, 5, none⟩ = some (.string to_) := by rw [blk_cell HB2]; rfl
        have c6 : w2.cell? ⟨w.heap.size, 6, none⟩ = some (.int .i64 n) := by rw [blk_cell HB2]; rfl
        have HG2 := Lib.hid ((HW.out _).step hw2)
        clear HB2 hw2
        go_wp2_with (go_at_call 101; (first | (with_reducible refine (valNameB H1.out _).mono ?_) | (with_reducible refine (valNameB H2.out _).mono ?_) | (with_reducible refine (valNameB H3.out _).mono ?_) | (with_reducible refine (valNameB H4.out _).mono ?_)); rintro e w3 ⟨rfl, rfl⟩)
        go_ret
        exact ⟨rfl, HG2.out⟩
    · skip
      have q1 : (name.toList == ([] : List UInt8)) = false := (empty_beq name).trans (decide_eq_false h1)
      have hF : F = false := by rw [← HF.out]; simp [formR, H1.out, *]
      subst hF
      clear HF
      go_enter Tryz.func50, Tryz.ntmps50
      go_wp2_with fail
      refine wp_region_grow (by kernel_rfl) (by kernel_rfl) ?_
      repeat (go_big_quiet_step (first | (go_at_call 101; with_reducible exact calls_gr (valNameG H1.out _)) | (go_at_call 101; with_reducible exact calls_gr (valNameG H2.out _))))
      refine wpQuiet_nil ?_
      intro w2 hw2
      have HB2 := HB.out _ w2 hw2
      have hbl := blk_lt HB2
      have c1 : w2.cell? ⟨w.heap.size, 1, none⟩ = some (.int .i64 4) := by rw [blk_cell HB2]; rfl
      have c3 : w2.cell? ⟨w.heap.size, 3, none⟩ = some (.string name) := by rw [blk_cell HB2]; rfl
      have c4 : w2.cell? ⟨w.heap.size, 4, none⟩ = some (.string from_) := by rw [blk_cell HB2]; rfl
      have c5 : w2.cell? ⟨w.heap.size, 5, none⟩ = some (.string to_) := by rw [blk_cell HB2]; rfl
      have c6 : w2.cell? ⟨w.heap.size, 6, none⟩ = some (.int .i64 n) := by rw [blk_cell HB2]; rfl
      have HG2 := Lib.hid ((HW.out _).step hw2)
      clear HB2 hw2
      go_wp2_with (go_at_call 101; (first | (with_reducible refine (valNameB H1.out _).mono ?_) | (with_reducible refine (valNameB H2.out _).mono ?_) | (with_reducible refine (valNameB H3.out _).mono ?_) | (with_reducible refine (valNameB H4.out _).mono ?_)); rintro e w3 ⟨rfl, rfl⟩)
      go_ret
      exact ⟨rfl, HG2.out⟩
set_option maxRecDepth 100000 in
set_option maxHeartbeats 2000000 in
theorem ruleForm0 (id kind : Int) (typ name from_ to_ : ByteArray) (n state : Int) (hk : kind ≠ 1 ∧ kind ≠ 2 ∧ kind ≠ 3 ∧ kind ≠ 4) (w : World) : Calls Tryz.prog 50 #[(PRule.mk id kind typ name from_ to_ n state).args] w fun e w' => e = .returned (.bool (formR ⟨id, kind, typ, name, from_, to_, n, state⟩)) ∧ Grow w w' := by
  have HW := Lib.hid (show ∀ o1, Grow w (w.alloc o1) from fun o1 => (Grow.rfl' w).allocd o1)
  have HB := Lib.hid (show ∀ o1 w', Grow (w.alloc o1) w' → w'.heap[w.heap.size]? = some o1 from fun o1 w' hg => by rw [hg.heapEq (by simp)]; exact heap_alloc_new w _)
  generalize hF : formR _ = F
  have HF := Lib.hid hF; clear hF
  obtain ⟨b1, hb1⟩ : ∃ b, decide (NameOk typ) = b := ⟨_, rfl⟩
  obtain ⟨b2, hb2⟩ : ∃ b, decide (NameOk name) = b := ⟨_, rfl⟩
  obtain ⟨b3, hb3⟩ : ∃ b, decide (NameOk from_) = b := ⟨_, rfl⟩
  obtain ⟨b4, hb4⟩ : ∃ b, decide (NameOk to_) = b := ⟨_, rfl⟩
  have H1 := Lib.hid hb1; have H2 := Lib.hid hb2; have H3 := Lib.hid hb3; have H4 := Lib.hid hb4
  clear hb1 hb2 hb3 hb4
  obtain ⟨k1, k2, k3, k4⟩ := hk
  have HK := Lib.hid (And.intro k1 (And.intro k2 (And.intro k3 k4)))
  have hF : F = false := by rw [← HF.out]; simp [formR, HK.out, *]
  subst hF
  clear HF
  go_enter Tryz.func50, Tryz.ntmps50
  go_wp2_with fail
  refine wp_region_grow (by kernel_rfl) (by kernel_rfl) ?_
  repeat (go_big_quiet_step (first | (go_at_call 101; with_reducible exact calls_gr (valNameG H1.out _)) | (go_at_call 101; with_reducible exact calls_gr (valNameG H2.out _))))
  refine wpQuiet_nil ?_
  intro w2 hw2
  have HB2 := HB.out _ w2 hw2
  have hbl := blk_lt HB2
  have c1 : w2.cell? ⟨w.heap.size, 1, none⟩ = some (.int .i64 kind) := by rw [blk_cell HB2]; rfl
  have c3 : w2.cell? ⟨w.heap.size, 3, none⟩ = some (.string name) := by rw [blk_cell HB2]; rfl
  have c4 : w2.cell? ⟨w.heap.size, 4, none⟩ = some (.string from_) := by rw [blk_cell HB2]; rfl
  have c5 : w2.cell? ⟨w.heap.size, 5, none⟩ = some (.string to_) := by rw [blk_cell HB2]; rfl
  have c6 : w2.cell? ⟨w.heap.size, 6, none⟩ = some (.int .i64 n) := by rw [blk_cell HB2]; rfl
  have HG2 := Lib.hid ((HW.out _).step hw2)
  clear HB2 hw2
  go_wp2_with (go_at_call 101; (first | (with_reducible refine (valNameB H1.out _).mono ?_) | (with_reducible refine (valNameB H2.out _).mono ?_) | (with_reducible refine (valNameB H3.out _).mono ?_) | (with_reducible refine (valNameB H4.out _).mono ?_)); rintro e w3 ⟨rfl, rfl⟩)
  go_ret
  exact ⟨rfl, HG2.out⟩
theorem ruleForm (r : PRule) (w : World) : Calls Tryz.prog 50 #[r.args] w fun e w' => e = .returned (.bool (formR r)) ∧ Grow w w' := by
  obtain ⟨id, kind, typ, name, from_, to_, n, state⟩ := r
  by_cases k1 : kind = 1
  · subst k1; exact ruleForm1 id typ name from_ to_ n state w
  by_cases k2 : kind = 2
  · subst k2; exact ruleForm2 id typ name from_ to_ n state w
  by_cases k3 : kind = 3
  · subst k3; exact ruleForm3 id typ name from_ to_ n state w
  by_cases k4 : kind = 4
  · subst k4; exact ruleForm4 id typ name from_ to_ n state w
  exact ruleForm0 id kind typ name from_ to_ n state ⟨k1, k2, k3, k4⟩ w

end Go.Hg
