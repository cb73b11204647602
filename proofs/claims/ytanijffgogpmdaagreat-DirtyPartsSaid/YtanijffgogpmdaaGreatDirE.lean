/- graph.Node, Edge: what has an Id, copied; graph.Scan, some, Out, In; A row of numbers of one's own, made since a block: the law of append; A row of structs of one's own, made since a block: the law of append; append of a whole slice to an empty one: a copy of one's own; Who is near whom: the plain words, who is reached, which path is told; Who is near whom: the plain words of the reference's way; Rules: the plain words, what form a rule has, whether a graph keeps it, what breaks it; graph.acts: a kind's two functions. Conditions: those that each theorem names. -/
import Derived.WalkKit
import Derived.WalkSpells
import Derived.WalkLawsBesides
import Derived.Lib.Hide
import Derived.BigQuiet
import Derived.Deep.LoopGhost
import Derived.Test.YtanijffgogpmdaaGreatRows
import Derived.Lib.SliceRun
import Derived.WideMake
import Derived.Deep.RegionLaw
import Derived.Lib.Overlaps
import Derived.Deep.RegionHeld3
import Derived.Laws.ResultCell
import Derived.Laws.EntriesVeiled
import Derived.Test.YtanijffgogpmdaaGreatDirD
namespace Go.Hg
open Go.RowKit Go.Proofs

def NodePost (G : PGraph) (id : Int) (w : World) (e : Ending) (w' : World) : Prop :=
  (((G.nodes.find? fun x => decide (x.id = id)) = none ∧ e = .returned (.tuple #[.agg #[.int .i64 0, .string ByteArray.empty, .slice none 0 0], .bool false])) ∨
   ∃ x pv, (G.nodes.find? fun x => decide (x.id = id)) = some x ∧ e = .returned (.tuple #[.agg #[.int .i64 x.id, .string x.typ, pv], .bool true]) ∧ PropsR (fun b => w.heap.size ≤ b) w' pv x.props) ∧ Grow w w'

set_option maxRecDepth 100000 in
set_option maxHeartbeats 2000000 in
theorem graphGetNode (S : Nat → Prop) (B : Nat) (G : PGraph) (id : Int) (w : World) (h : GraphRd 120 S w B G) (hs : (G.nodes.map (·.id)).Pairwise (· < ·)) (hb : G.nodes.length ≤ 1099511627776) (hp : ∀ x ∈ G.nodes, x.props.length ≤ 1099511627776) :
    Calls Tryz.prog 53 #[.pointer (some ⟨B, 0, none⟩), .int .i64 id] w (NodePost G id w) := by
  have HGR := Lib.hid h; have HS := Lib.hid hs; have HBD := Lib.hid hb; have HPL := Lib.hid hp
  have hB : B < w.heap.size := by obtain ⟨_, _, h, _⟩ := h; exact blk_lt h
  have HW := Lib.hid (show ∀ o1, Grow w (w.alloc o1) from fun o1 => (Grow.rfl' w).allocd o1)
  have HNB := Lib.hid (show ∀ o1 w', Grow (w.alloc o1) w' → w'.heap[w.heap.size]? = some o1 from fun o1 w' hg => by rw [hg.heapEq (by simp)]; exact heap_alloc_new w _)
  clear h hs hb hp
  go_enter Tryz.func53, Tryz.ntmps53
  go_wp2_with fail
  refine (graphNodeR S B G id _ (HGR.out.grow (HW.out _)) HS.out HBD.out).mono ?_
  rintro e w2 ⟨i, b, rfl, hbs, hg⟩
  have HG2 := Lib.hid ((HW.out _).step hg)
  have hnb := HNB.out _ _ hg
  have hnl := blk_lt hnb
  have z0 : w2.cell? ⟨w.heap.size, 0, none⟩ = some (.int .i64 0) := by rw [blk_cell hnb]; rfl
  have zf0 := blk_free hnb 0
  have z1 : w2.cell? ⟨w.heap.size, 1, none⟩ = some (.string ByteArray.empty) := by rw [blk_cell hnb]; rfl
  have zf1 := blk_free hnb 1
  have z2 : w2.cell? ⟨w.heap.size, 2, none⟩ = some (.slice none 0 0) := by rw [blk_cell hnb]; rfl
  have zf2 := blk_free hnb 2
  have HBS := Lib.hid hbs; have HG02 := Lib.hid hg; have HNB2 := Lib.hid hnb
  clear hbs hg hnb
  cases b
  · have HF := Lib.hid (find_none (fun x : PNode => x.id) (idx_any (fun x : PNode => x.id) HBS.out).symm)
    go_wp2
    refine bodyPost_ret (v := .tuple #[.agg #[.int .i64 0, .string ByteArray.empty, .slice none 0 0], .bool false]) ?_ rfl ⟨.inl ⟨HF.out, rfl⟩, ?_⟩
    · rw [results_cell_tmp rfl]
      go_simp
      rfl
    · exact (((HG2.out).setd (p := ⟨w.heap.size, 0, none⟩) (Nat.le_refl _) _).setd (p := ⟨w.heap.size, 1, none⟩) (Nat.le_refl _) _).setd (p := ⟨w.heap.size, 2, none⟩) (Nat.le_refl _) _
  · obtain ⟨x, hx, hxi⟩ := idx_at (fun x : PNode => x.id) HBS.out
    have hil : i < G.nodes.length := (List.getElem?_eq_some_iff.1 hx).1
    have HF := Lib.hid (find_idx (fun x : PNode => x.id) HS.out hx hxi)
    have hpl := HPL.out x (List.mem_of_getElem? hx)
    have HPX := Lib.hid hpl
    obtain ⟨na, nc, ea, ec, hB2, g0, g1, g2, hn, he⟩ := (HGR.out.grow HG2.out).read
    obtain ⟨_, _, hv, hle, hcm, hA⟩ := SlR.open hn
    simp only [Value.slice.injEq, true_and] at hv
    obtain ⟨rfl, rfl⟩ := hv
    obtain ⟨ba, oa, ra, rfl, hSa, hba, hRa, hca⟩ := hA i x hx
    obtain ⟨pva, hba', a0, a1, a2, hpa⟩ := hRa.at hba (Grow.rfl' w2) hca
    have HPA := Lib.hid hpa
    obtain ⟨pa, pc, rfl⟩ := hpa.isSlice
    unfold maxLen at hcm
    clear hca hRa hSa hba hA hn he hpa hpl hx hxi
    go_wp2_with fail
    refine (cloneProp _ _ x.props _ (HPA.out.grow ((Grow.rfl' w2).allocd _)) HPX.out).mono ?_
    rintro e w3 ⟨v3, ob3, rfl, hown, hg, hob⟩
    obtain ⟨a3, c3, rfl⟩ : ∃ a c, v3 = .slice a x.props.length c := by obtain ⟨_, _, _, h⟩ := hown; obtain ⟨oa, cap, h, _⟩ := h.isSlice; exact ⟨oa, cap, h⟩
    have hb3 : w3.heap[w2.heap.size]? = some (.cells #[.int .i64 x.id, .string x.typ, .slice pa x.props.length pc] 94 (0, 0)) := by rw [hg.heapEq (by simp)]; exact heap_alloc_new w2 _
    have hl3 := blk_lt hb3
    have y0 : w3.cell? ⟨w2.heap.size, 0, none⟩ = some (.int .i64 x.id) := by rw [blk_cell hb3]; rfl
    have yf0 := blk_free hb3 0
    have y1 : w3.cell? ⟨w2.heap.size, 1, none⟩ = some (.string x.typ) := by rw [blk_cell hb3]; rfl
    have yf1 := blk_free hb3 1
    have y2 : w3.cell? ⟨w2.heap.size, 2, none⟩ = some (.slice pa x.props.length pc) := by rw [blk_cell hb3]; rfl
    have yf2 := blk_free hb3 2
    have hr3 := HNB.out _ w3 ((HG02.out.allocd _).step hg)
    have hlr := blk_lt hr3
    have x0 : w3.cell? ⟨w.heap.size, 0, none⟩ = some (.int .i64 0) := by rw [blk_cell hr3]; rfl
    have xf0 := blk_free hr3 0
    have x1 : w3.cell? ⟨w.heap.size, 1, none⟩ = some (.string ByteArray.empty) := by rw [blk_cell hr3]; rfl
    have xf1 := blk_free hr3 1
    have x2 : w3.cell? ⟨w.heap.size, 2, none⟩ = some (.slice none 0 0) := by rw [blk_cell hr3]; rfl
    have xf2 := blk_free hr3 2
    have HG3 := Lib.hid ((HG2.out.allocd _).step hg)
    have HP3 := Lib.hid (show PropsR (fun b => w2.heap.size + 1 ≤ b) w3 (.slice a3 x.props.length c3) x.props from hown.toSl (S := fun b => w2.heap.size + 1 ≤ b) (fun g hgg => by have := hob g hgg; simpa using this))
    have HS2 := Lib.hid HG2.out.size
    clear hown hg hob hb3 hr3
    go_wp2
    refine bodyPost_ret (v := .tuple #[.agg #[.int .i64 x.id, .string x.typ, .slice a3 x.props.length c3], .bool true]) ?_ rfl ⟨.inr ⟨x, _, HF.out, rfl, ?_⟩, ?_⟩
    · rw [results_cell_tmp rfl]
      go_simp
    · refine (HP3.out.mod (F := fun b => b = w.heap.size ∨ b = w2.heap.size) (((((Mod.rfl' _ w3).setd (p := ⟨w2.heap.size, 2, none⟩) (.inl (.inr rfl)) _).setd (p := ⟨w.heap.size, 0, none⟩) (.inl (.inl rfl)) _).setd (p := ⟨w.heap.size, 1, none⟩) (.inl (.inl rfl)) _).setd (p := ⟨w.heap.size, 2, none⟩) (.inl (.inl rfl)) _) (fun b hb h => ?_)).sub (fun b hb => ?_)
      · have := HS2.out
        have hx : w.heap.size < w2.heap.size := hnl
        rcases h with h | h <;> omega
      · have := HS2.out
        omega
    · have h2 := HS2.out
      exact (((HG3.out.setd (p := ⟨w2.heap.size, 2, none⟩) h2 _).setd (p := ⟨w.heap.size, 0, none⟩) (Nat.le_refl _) _).setd (p := ⟨w.heap.size, 1, none⟩) (Nat.le_refl _) _).setd (p := ⟨w.heap.size, 2, none⟩) (Nat.le_refl _) _

def EdgePost (G : PGraph) (id : Int) (w : World) (e : Ending) (w' : World) : Prop :=
  (((G.edges.find? fun x => decide (x.id = id)) = none ∧ e = .returned (.tuple #[.agg #[.int .i64 0, .string ByteArray.empty, .int .i64 0, .int .i64 0, .slice none 0 0], .bool false])) ∨
   ∃ x pv, (G.edges.find? fun x => decide (x.id = id)) = some x ∧ e = .returned (.tuple #[.agg #[.int .i64 x.id, .string x.typ, .int .i64 x.from_, .int .i64 x.to_, pv], .bool true]) ∧ PropsR (fun b => w.heap.size ≤ b) w' pv x.props) ∧ Grow w w'

set_option maxRecDepth 100000 in
set_option maxHeartbeats 2000000 in
theorem graphGetEdge (S : Nat → Prop) (B : Nat) (G : PGraph) (id : Int) (w : World) (h : GraphRd 120 S w B G) (hs : (G.edges.map (·.id)).Pairwise (· < ·)) (hb : G.edges.length ≤ 1099511627776) (hp : ∀ x ∈ G.edges, x.props.length ≤ 1099511627776) :
    Calls Tryz.prog 127 #[.pointer (some ⟨B, 0, none⟩), .int .i64 id] w (EdgePost G id w) := by
  have HGR := Lib.hid h; have HS := Lib.hid hs; have HBD := Lib.hid hb; have HPL := Lib.hid hp
  have hB : B < w.heap.size := by obtain ⟨_, _, h, _⟩ := h; exact blk_lt h
  have HW := Lib.hid (show ∀ o1, Grow w (w.alloc o1) from fun o1 => (Grow.rfl' w).allocd o1)
  have HNB := Lib.hid (show ∀ o1 w', Grow (w.alloc o1) w' → w'.heap[w.heap.size]? = some o1 from fun o1 w' hg => by rw [hg.heapEq (by simp)]; exact heap_alloc_new w _)
  clear h hs hb hp
  go_enter Tryz.func127, Tryz.ntmps127
  go_wp2_with fail
  refine (graphEdgeR S B G id _ (HGR.out.grow (HW.out _)) HS.out HBD.out).mono ?_
  rintro e w2 ⟨i, b, rfl, hbs, hg⟩
  have HG2 := Lib.hid ((HW.out _).step hg)
  have hnb := HNB.out _ _ hg
  have hnl := blk_lt hnb
  have z0 : w2.cell? ⟨w.heap.size, 0, none⟩ = some (.int .i64 0) := by rw [blk_cell hnb]; rfl
  have zf0 := blk_free hnb 0
  have z1 : w2.cell? ⟨w.heap.size, 1, none⟩ = some (.string ByteArray.empty) := by rw [blk_cell hnb]; rfl
  have zf1 := blk_free hnb 1
  have z2 : w2.cell? ⟨w.heap.size, 2, none⟩ = some (.int .i64 0) := by rw [blk_cell hnb]; rfl
  have zf2 := blk_free hnb 2
  have z3 : w2.cell? ⟨w.heap.size, 3, none⟩ = some (.int .i64 0) := by rw [blk_cell hnb]; rfl
  have zf3 := blk_free hnb 3
  have z4 : w2.cell? ⟨w.heap.size, 4, none⟩ = some (.slice none 0 0) := by rw [blk_cell hnb]; rfl
  have zf4 := blk_free hnb 4
  have HBS := Lib.hid hbs; have HG02 := Lib.hid hg; have HNB2 := Lib.hid hnb
  clear hbs hg hnb
  cases b
  · have HF := Lib.hid (find_none (fun x : PEdge => x.id) (idx_any (fun x : PEdge => x.id) HBS.out).symm)
    go_wp2
    refine bodyPost_ret (v := .tuple #[.agg #[.int .i64 0, .string ByteArray.empty, .int .i64 0, .int .i64 0, .slice none 0 0], .bool false]) ?_ rfl ⟨.inl ⟨HF.out, rfl⟩, ?_⟩
    · rw [results_cell_tmp rfl]
      go_simp
      rfl
    · exact (((((HG2.out).setd (p := ⟨w.heap.size, 0, none⟩) (Nat.le_refl _) _).setd (p := ⟨w.heap.size, 1, none⟩) (Nat.le_refl _) _).setd (p := ⟨w.heap.size, 2, none⟩) (Nat.le_refl _) _).setd (p := ⟨w.heap.size, 3, none⟩) (Nat.le_refl _) _).setd (p := ⟨w.heap.size, 4, none⟩) (Nat.le_refl _) _
  · obtain ⟨x, hx, hxi⟩ := idx_at (fun x : PEdge => x.id) HBS.out
    have hil : i < G.edges.length := (List.getElem?_eq_some_iff.1 hx).1
    have HF := Lib.hid (find_idx (fun x : PEdge => x.id) HS.out hx hxi)
    have hpl := HPL.out x (List.mem_of_getElem? hx)
    have HPX := Lib.hid hpl
    obtain ⟨na, nc, ea, ec, hB2, g0, g1, g2, hn, he⟩ := (HGR.out.grow HG2.out).read
    obtain ⟨_, _, hv, hle, hcm, hA⟩ := SlR.open he
    simp only [Value.slice.injEq, true_and] at hv
    obtain ⟨rfl, rfl⟩ := hv
    obtain ⟨ba, oa, ra, rfl, hSa, hba, hRa, hca⟩ := hA i x hx
    obtain ⟨pva, hba', a0, a1, a2, a3, a4, hpa⟩ := hRa.at hba (Grow.rfl' w2) hca
    have HPA := Lib.hid hpa
    obtain ⟨pa, pc, rfl⟩ := hpa.isSlice
    unfold maxLen at hcm
    clear hca hRa hSa hba hA hn he hpa hpl hx hxi
    go_wp2_with fail
    refine (cloneProp _ _ x.props _ (HPA.out.grow ((Grow.rfl' w2).allocd _)) HPX.out).mono ?_
    rintro e w3 ⟨v3, ob3, rfl, hown, hg, hob⟩
    obtain ⟨a3, c3, rfl⟩ : ∃ a c, v3 = .slice a x.props.length c := by obtain ⟨_, _, _, h⟩ := hown; obtain ⟨oa, cap, h, _⟩ := h.isSlice; exact ⟨oa, cap, h⟩
    have hb3 : w3.heap[w2.heap.size]? = some (.cells #[.int .i64 x.id, .string x.typ, .int .i64 x.from_, .int .i64 x.to_, .slice pa x.props.length pc] 98 (0, 0)) := by rw [hg.heapEq (by simp)]; exact heap_alloc_new w2 _
    have hl3 := blk_lt hb3
    have y0 : w3.cell? ⟨w2.heap.size, 0, none⟩ = some (.int .i64 x.id) := by rw [blk_cell hb3]; rfl
    have yf0 := blk_free hb3 0
    have y1 : w3.cell? ⟨w2.heap.size, 1, none⟩ = some (.string x.typ) := by rw [blk_cell hb3]; rfl
    have yf1 := blk_free hb3 1
    have y2 : w3.cell? ⟨w2.heap.size, 2, none⟩ = some (.int .i64 x.from_) := by rw [blk_cell hb3]; rfl
    have yf2 := blk_free hb3 2
    have y3 : w3.cell? ⟨w2.heap.size, 3, none⟩ = some (.int .i64 x.to_) := by rw [blk_cell hb3]; rfl
    have yf3 := blk_free hb3 3
    have y4 : w3.cell? ⟨w2.heap.size, 4, none⟩ = some (.slice pa x.props.length pc) := by rw [blk_cell hb3]; rfl
    have yf4 := blk_free hb3 4
    have hr3 := HNB.out _ w3 ((HG02.out.allocd _).step hg)
    have hlr := blk_lt hr3
    have x0 : w3.cell? ⟨w.heap.size, 0, none⟩ = some (.int .i64 0) := by rw [blk_cell hr3]; rfl
    have xf0 := blk_free hr3 0
    have x1 : w3.cell? ⟨w.heap.size, 1, none⟩ = some (.string ByteArray.empty) := by rw [blk_cell hr3]; rfl
    have xf1 := blk_free hr3 1
    have x2 : w3.cell? ⟨w.heap.size, 2, none⟩ = some (.int .i64 0) := by rw [blk_cell hr3]; rfl
    have xf2 := blk_free hr3 2
    have x3 : w3.cell? ⟨w.heap.size, 3, none⟩ = some (.int .i64 0) := by rw [blk_cell hr3]; rfl
    have xf3 := blk_free hr3 3
    have x4 : w3.cell? ⟨w.heap.size, 4, none⟩ = some (.slice none 0 0) := by rw [blk_cell hr3]; rfl
    have xf4 := blk_free hr3 4
    have HG3 := Lib.hid ((HG2.out.allocd _).step hg)
    have HP3 := Lib.hid (show PropsR (fun b => w2.heap.size + 1 ≤ b) w3 (.slice a3 x.props.length c3) x.props from hown.toSl (S := fun b => w2.heap.size + 1 ≤ b) (fun g hgg => by have := hob g hgg; simpa using this))
    have HS2 := Lib.hid HG2.out.size
    clear hown hg hob hb3 hr3
    go_wp2
    refine bodyPost_ret (v := .tuple #[.agg #[.int .i64 x.id, .string x.typ, .int .i64 x.from_, .int .i64 x.to_, .slice a3 x.props.length c3], .bool true]) ?_ rfl ⟨.inr ⟨x, _, HF.out, rfl, ?_⟩, ?_⟩
    · rw [results_cell_tmp rfl]
      go_simp
    · refine (HP3.out.mod (F := fun b => b = w.heap.size ∨ b = w2.heap.size) (((((((Mod.rfl' _ w3).setd (p := ⟨w2.heap.size, 4, none⟩) (.inl (.inr rfl)) _).setd (p := ⟨w.heap.size, 0, none⟩) (.inl (.inl rfl)) _).setd (p := ⟨w.heap.size, 1, none⟩) (.inl (.inl rfl)) _).setd (p := ⟨w.heap.size, 2, none⟩) (.inl (.inl rfl)) _).setd (p := ⟨w.heap.size, 3, none⟩) (.inl (.inl rfl)) _).setd (p := ⟨w.heap.size, 4, none⟩) (.inl (.inl rfl)) _) (fun b hb h => ?_)).sub (fun b hb => ?_)
      · have := HS2.out
        have hx : w.heap.size < w2.heap.size := hnl
        rcases h with h | h <;> omega
      · have := HS2.out
        omega
    · have h2 := HS2.out
      exact (((((HG3.out.setd (p := ⟨w2.heap.size, 4, none⟩) h2 _).setd (p := ⟨w.heap.size, 0, none⟩) (Nat.le_refl _) _).setd (p := ⟨w.heap.size, 1, none⟩) (Nat.le_refl _) _).setd (p := ⟨w.heap.size, 2, none⟩) (Nat.le_refl _) _).setd (p := ⟨w.heap.size, 3, none⟩) (Nat.le_refl _) _).setd (p := ⟨w.heap.size, 4, none⟩) (Nat.le_refl _) _
end Go.Hg

namespace Go.Hg
open Go.RowKit Go.Proofs

theorem infoInt : (Tryz.prog.info? 2).map (fun i => (i.zero, i.size, i.bytes)) = some (some (.int .i64 0), 1, 8) := by kernel_rfl
def IdsO (w : World) (v : Value) (l : List Int) (ob : Option Nat) : Prop := OwnS w 2 1 v l.length (l.map (.int .i64 ·)) ob
abbrev IdsR (S : Nat → Prop) (w : World) (v : Value) (l : List Int) : Prop := SlR S w 1 (fun n r => r = [Value.int .i64 n]) v l
theorem IdsO.toR {w : World} {v : Value} {l : List Int} {ob : Option Nat} (h : IdsO w v l ob) {S : Nat → Prop} (hS : ∀ g, ob = some g → S g) : IdsR S w v l := by
  have h2 : OwnL w 2 1 (fun n r => r = [Value.int .i64 n]) v l ob := ⟨l.map (fun n => [.int .i64 n]), by simp, fun k x r hx hr => by
    rw [List.getElem?_map, hx] at hr
    simp only [Option.map_some, Option.some.injEq] at hr
    subst hr
    exact ⟨rfl, rfl⟩, by
    have e : (l.map fun n => [Value.int .i64 n]).flatten = l.map (.int .i64 ·) := by
      clear h hS
      induction l with
      | nil => rfl
      | cons a t ih => simp [ih]
    rw [e]; exact h⟩
  exact h2.toSl hS
theorem one1 (a : Value) (ha : a.oneCell' = true) : ∀ u ∈ [a], u.oneCell' = true := by
  intro u hu; simp only [List.mem_cons, List.not_mem_nil, or_false] at hu; subst hu; exact ha
def IdsPost (l : List Int) (w : World) (e : Ending) (w' : World) : Prop := ∃ v ob, e = .returned v ∧ IdsO w' v l ob ∧ (∀ b, ob = some b → w.heap.size ≤ b) ∧ Grow w w'

end Go.Hg

namespace Go.Hg
open Go.RowKit Go.Proofs

def IdsW (n : Nat) (w : World) (v : Value) (l : List Int) : Prop := ∃ ob, IdsO w v l ob ∧ ∀ q, ob = some q → n ≤ q
theorem IdsW.nil (n : Nat) (w : World) : IdsW n w (.slice none 0 0) [] := ⟨none, OwnS.nil w _ 1, by simp⟩
theorem IdsW.grow {n : Nat} {w w' : World} {v : Value} {l : List Int} (h : IdsW n w v l) (g : Grow w w') : IdsW n w' v l := by
  obtain ⟨ob, h1, h2⟩ := h
  exact ⟨ob, OwnS.grow h1 g, h2⟩
theorem IdsW.base {n m : Nat} {w : World} {v : Value} {l : List Int} (h : IdsW n w v l) (hm : m ≤ n) : IdsW m w v l := by
  obtain ⟨ob, h1, h2⟩ := h
  exact ⟨ob, h1, fun q hq => Nat.le_trans hm (h2 q hq)⟩
theorem IdsW.isSlice {n : Nat} {w : World} {v : Value} {l : List Int} (h : IdsW n w v l) : ∃ oa cap, v = .slice oa l.length cap ∧ l.length ≤ cap ∧ cap ≤ maxLen := by
  obtain ⟨ob, h1, _⟩ := h
  exact OwnS.isSlice h1
theorem IdsW.toR {n : Nat} {w : World} {v : Value} {l : List Int} (h : IdsW n w v l) : IdsR (fun b => n ≤ b) w v l := by
  obtain ⟨ob, h1, h2⟩ := h
  exact h1.toR h2
theorem IdsW.post {w w' : World} {v : Value} {l : List Int} (h : IdsW w.heap.size w' v l) (g : Grow w w') : IdsPost l w (.returned v) w' := by
  obtain ⟨ob, h1, h2⟩ := h
  exact ⟨v, ob, rfl, h1, h2, g⟩
theorem IdsPost.open {l : List Int} {w w' : World} {e : Ending} (h : IdsPost l w e w') : ∃ v, e = .returned v ∧ IdsW w.heap.size w' v l ∧ Grow w w' := by
  obtain ⟨v, ob, h0, h1, h2, h3⟩ := h
  exact ⟨v, h0, ⟨ob, h1, h2⟩, h3⟩
abbrev Since (n : Nat) (w w' : World) : Prop := Mod (fun k => n ≤ k) w w'
theorem Grow.since {n : Nat} {a b c : World} (h : Grow a b) (k : Since n b c) (hn : a.heap.size ≤ n) : Grow a c := h.modd k (fun _ hx => Nat.le_trans hn hx)
end Go.Hg

namespace Go.Hg
open Go.RowKit Go.Proofs

structure RowT (P : Program) (e : TypeId) (sz bytes : Nat) : Prop where
  info : ∃ i z, P.info? e = some i ∧ i.zero = some z ∧ i.size = sz ∧ i.bytes = bytes ∧ z.cells.size = sz
  pos : 0 < sz
theorem RowT.of {P : Program} {e : TypeId} {z : Value} {sz bytes : Nat} (h : (P.info? e).map (fun i => (i.zero, i.size, i.bytes)) = some (some z, sz, bytes)) (hz : z.cells.size = sz) (hs : 0 < sz) : RowT P e sz bytes := by
  obtain ⟨i, h1, h2, h3, h4⟩ := info_parts h
  exact ⟨⟨i, z, h1, h2, h3, h4, hz⟩, hs⟩
def OwnN {α : Type} (e : TypeId) (sz : Nat) (R : α → List Value → Prop) (n : Nat) (w : World) (v : Value) (l : List α) : Prop := ∃ ob, OwnL w e sz R v l ob ∧ ∀ q, ob = some q → n ≤ q
section
variable {α : Type} {e : TypeId} {sz : Nat} {R : α → List Value → Prop} {n : Nat} {w w' : World} {v : Value} {l : List α}
theorem OwnN.nil (n : Nat) (w : World) : OwnN e sz R n w (.slice none 0 0) [] := ⟨none, OwnL.nil w e sz R, by simp⟩
theorem OwnN.grow (h : OwnN e sz R n w v l) (g : Grow w w') : OwnN e sz R n w' v l := by
  obtain ⟨ob, h1, h2⟩ := h
  exact ⟨ob, h1.keep (fun q hq => g.heapEq (h1.lt q hq)) (fun _ _ _ h => h), h2⟩
theorem OwnN.mod {F : Nat → Prop} (h : OwnN e sz R n w v l) (g : Mod F w w') (hF : ∀ k, n ≤ k → ¬ F k) : OwnN e sz R n w' v l := by
  obtain ⟨ob, h1, h2⟩ := h
  exact ⟨ob, h1.keep (fun q hq => g.block q (h1.lt q hq) (hF q (h2 q hq))) (fun _ _ _ h => h), h2⟩
theorem OwnN.base {m : Nat} (h : OwnN e sz R n w v l) (hm : m ≤ n) : OwnN e sz R m w v l := by
  obtain ⟨ob, h1, h2⟩ := h
  exact ⟨ob, h1, fun q hq => Nat.le_trans hm (h2 q hq)⟩
theorem OwnN.isSlice (h : OwnN e sz R n w v l) : ∃ oa cap, v = .slice oa l.length cap ∧ l.length ≤ cap ∧ cap ≤ maxLen := by
  obtain ⟨ob, ⟨rows, _, _, h1⟩, _⟩ := h
  exact OwnS.isSlice h1
theorem OwnN.toR (h : OwnN e sz R n w v l) : SlR (fun b => n ≤ b) w sz R v l := by
  obtain ⟨ob, h1, h2⟩ := h
  exact h1.toSl h2
theorem OwnN.imp {R' : α → List Value → Prop} (h : OwnN e sz R n w v l) (hR : ∀ x r, x ∈ l → R x r → R' x r) : OwnN e sz R' n w v l := by
  obtain ⟨ob, h1, h2⟩ := h
  exact ⟨ob, h1.keep (fun _ _ => rfl) hR, h2⟩
end
end Go.Hg

namespace Go.Hg
open Go.RowKit Go.Proofs

theorem SlR.rdN {α : Type} {S : Nat → Prop} {w : World} {sz : Nat} {R : α → List Value → Prop} {v : Value} {l : List α} (h : SlR S w sz R v l) (hs : 0 < sz) (hR : ∀ x r, R x r → r.length = sz) :
    ∃ rows : List (List Value), rows.length = l.length ∧ (∀ (k : Nat) x r, l[k]? = some x → rows[k]? = some r → R x r ∧ r.length = sz) ∧ Rd w sz v l.length rows.flatten := by
  obtain ⟨a, cap, rows, rfl, h1, h2, h3, h4, h5⟩ := h
  have hrl : ∀ r ∈ rows, r.length = sz := by
    intro r hr
    obtain ⟨k, hk, e⟩ := List.getElem_of_mem hr
    exact hR (l[k]'(by omega)) r (h4 k _ r (List.getElem?_eq_getElem (by omega)) (by rw [List.getElem?_eq_getElem hk, e]))
  have hfl : rows.flatten.length = l.length * sz := by
    rw [← h3]
    clear h3 h4 h5
    induction rows with
    | nil => simp
    | cons r t ih =>
      rw [List.flatten_cons, List.length_append, hrl r (.head _), ih (fun r hr => hrl r (.tail _ hr)), List.length_cons, Nat.succ_mul]
      omega
  refine ⟨rows, h3, fun k x r hx hr => ⟨h4 k x r hx hr, hrl r (List.mem_of_getElem? hr)⟩, hfl, a, cap, rfl, ?_⟩
  by_cases h0 : l.length = 0
  · exact .inl h0
  · obtain ⟨b, off, rfl, -, -, hc⟩ := h5 (by omega)
    refine .inr ⟨_, rfl, fun i u hi => ?_⟩
    have hil : i < l.length * sz := by rw [← hfl]; exact (List.getElem?_eq_some_iff.1 hi).1
    have hk : i / sz < rows.length := by rw [h3]; exact Nat.div_lt_of_lt_mul (by rw [Nat.mul_comm]; exact hil)
    have hj : i % sz < (rows[i / sz]).length := by rw [hrl _ (List.getElem_mem hk)]; exact Nat.mod_lt _ hs
    have h6 := flatten_at rows sz (i / sz) (i % sz) rows[i / sz] _ hrl (List.getElem?_eq_getElem hk) (List.getElem?_eq_getElem hj)
    have e : i / sz * sz + i % sz = i := by rw [Nat.mul_comm]; exact Nat.div_add_mod i sz
    rw [e, hi] at h6
    have h7 := hc (i / sz) rows[i / sz] (i % sz) _ (List.getElem?_eq_getElem hk) (List.getElem?_eq_getElem hj)
    have hadd : (⟨b, off, none⟩ : Addr).add i = ⟨b, off + i, none⟩ := by unfold Addr.add; split <;> simp_all
    rw [hadd]
    rw [show off + i / sz * sz + i % sz = off + i by omega] at h7
    rw [h7, ← h6]
theorem wpList_append_L {P : Program} {α : Type} {R : α → List Value → Prop} {S : Nat → Prop} {w : World} {ops : Array Oper} {rest : List Oper} {o : Oper} {a : Act} {Q : Exit → Act → World → Prop} (hgd : o.guard = none) (s x : Operand) (t : TypeId)
    (ho : o.op = .call { callee := .builtin .append, args := #[s, x], argTypes := #[t, t] }) {e : TypeId} {sz bytes : Nat} (T : RowT P e sz bytes) (ht : P.underlying t = some (.slice e)) (n : Nat) (nb : Nat) (hs : a.eval s = .slice (some ⟨nb, 0, none⟩) 0 0)
    (xv : Value) (hx : a.eval x = xv) (l : List α) (hl : SlR S w sz R xv l) (hR : ∀ x r, R x r → r.length = sz ∧ ∀ u ∈ r, u.oneCell' = true) (hn : n ≤ w.heap.size) (hlm : l.length ≤ maxLen) (hby : l.length * bytes ≤ 140737488355328)
    (hK : ∀ v' w', OwnN e sz R n w' v' l → Grow w w' → wpList P ops Q rest (a.put o.dst v') w') : wpList P ops Q (o :: rest) a w := by
  obtain ⟨rows, h1, h2, h3⟩ := SlR.rdN hl T.pos (fun x r h => (hR x r h).1)
  obtain ⟨⟨iP, z, hiP, hzP0, hzP1, hzP2, hzz⟩, hpos⟩ := T
  have hone : ∀ u ∈ rows.flatten, u.oneCell' = true := by
    intro u hu
    obtain ⟨r, hr, hur⟩ := List.mem_flatten.1 hu
    obtain ⟨k, hk, e⟩ := List.getElem_of_mem hr
    exact (hR _ r (h2 k (l[k]'(by omega)) r (List.getElem?_eq_getElem (by omega)) (by rw [List.getElem?_eq_getElem hk, e])).1).2 u hur
  refine wpList_append_S w hgd s x t ho e iP z sz bytes ht hiP hzP0 hzP1 hzP2 hzz hpos _ 0 [] none hs ⟨by simp, .inl ⟨_, rfl, rfl, rfl, by simp⟩⟩ _ hx l.length _ h3 hone (by omega) (by rw [Nat.zero_add]; exact hby) ?_
  intro v' w' ob' k1 k2 k3 _
  have hg : Grow w w' := (k2.mono (F' := fun _ => False) (fun q hq => by cases hq)).grow
  refine hK v' w' ⟨ob', ⟨rows, h1, h2, ?_⟩, ?_⟩ hg
  · simpa using k1
  · intro q hq
    rcases k3 with k3 | ⟨g, k3, hg⟩
    · rw [k3] at hq; cases hq
    · rw [k3] at hq; cases hq; omega
end Go.Hg

namespace Go.Hg

def fitE (typ : ByteArray) (e : PEdge) : Bool := decide (typ = ByteArray.empty) || decide (e.typ = typ)
def outsE (E : List PEdge) (typ : ByteArray) (x : Int) : List PEdge := E.filter fun e => fitE typ e && decide (e.from_ = x)
def insE (E : List PEdge) (typ : ByteArray) (y : Int) : List PEdge := E.filter fun e => fitE typ e && decide (e.to_ = y)
def StepE (E : List PEdge) (typ : ByteArray) (x y : Int) : Prop := ∃ e ∈ E, fitE typ e = true ∧ e.from_ = x ∧ e.to_ = y
theorem stepE_outs {E : List PEdge} {typ : ByteArray} {x y : Int} : StepE E typ x y ↔ ∃ e ∈ outsE E typ x, e.to_ = y := by
  simp only [StepE, outsE, List.mem_filter, Bool.and_eq_true, decide_eq_true_eq]
  constructor
  · rintro ⟨e, h1, h2, h3, h4⟩
    exact ⟨e, ⟨h1, h2, h3⟩, h4⟩
  · rintro ⟨e, ⟨h1, h2, h3⟩, h4⟩
    exact ⟨e, h1, h2, h3, h4⟩
theorem stepE_ins {E : List PEdge} {typ : ByteArray} {x y : Int} : StepE E typ x y ↔ ∃ e ∈ insE E typ y, e.from_ = x := by
  simp only [StepE, insE, List.mem_filter, Bool.and_eq_true, decide_eq_true_eq]
  constructor
  · rintro ⟨e, h1, h2, h3, h4⟩
    exact ⟨e, ⟨h1, h2, h4⟩, h3⟩
  · rintro ⟨e, ⟨h1, h2, h3⟩, h4⟩
    exact ⟨e, h1, h2, h4, h3⟩

def RSet (l : List Int) (p : Int → Prop) : Prop := l.Pairwise (· < ·) ∧ ∀ y, y ∈ l ↔ p y
theorem RSet.same : ∀ {l l' : List Int}, l.Pairwise (· < ·) → l'.Pairwise (· < ·) → (∀ y, y ∈ l ↔ y ∈ l') → l = l'
  | [], [], _, _, _ => rfl
  | [], b :: t, _, _, h => by have := (h b).2 (.head _); cases this
  | a :: s, [], _, _, h => by have := (h a).1 (.head _); cases this
  | a :: s, b :: t, h1, h2, h => by
    rw [List.pairwise_cons] at h1 h2
    have hab : a = b := by
      have ha := (h a).1 (.head _)
      have hb := (h b).2 (.head _)
      rcases List.mem_cons.1 ha with r | ha
      · exact r
      rcases List.mem_cons.1 hb with r | hb
      · exact r.symm
      have := h2.1 a ha
      have := h1.1 b hb
      omega
    subst hab
    refine congrArg (a :: ·) (RSet.same h1.2 h2.2 fun y => ?_)
    constructor
    · intro hy
      have := h1.1 y hy
      rcases List.mem_cons.1 ((h y).1 (.tail _ hy)) with r | r
      · omega
      · exact r
    · intro hy
      have := h2.1 y hy
      rcases List.mem_cons.1 ((h y).2 (.tail _ hy)) with r | r
      · omega
      · exact r
theorem RSet.uniq {l l' : List Int} {p p' : Int → Prop} (h : RSet l p) (h' : RSet l' p') (hp : ∀ y, p y ↔ p' y) : l = l' :=
  RSet.same h.1 h'.1 fun y => by rw [h.2, h'.2, hp]
theorem RSet.congr {l : List Int} {p p' : Int → Prop} (h : RSet l p) (hp : ∀ y, p y ↔ p' y) : RSet l p' := ⟨h.1, fun y => (h.2 y).trans (hp y)⟩
theorem RSet.nil {p : Int → Prop} (hp : ∀ y, ¬ p y) : RSet [] p := ⟨.nil, fun y => by simp [hp]⟩

def Rch (E : List PEdge) (typ : ByteArray) : Nat → Int → Int → Prop
  | 0, _, _ => False
  | n + 1, x, y => StepE E typ x y ∨ ∃ z, Rch E typ n x z ∧ StepE E typ z y
section
variable {E : List PEdge} {typ : ByteArray}
theorem Rch.succ : ∀ {n : Nat} {x y : Int}, Rch E typ n x y → Rch E typ (n + 1) x y
  | 0, _, _, h => h.elim
  | _ + 1, _, _, .inl h => .inl h
  | _ + 1, _, _, .inr ⟨z, h1, h2⟩ => .inr ⟨z, h1.succ, h2⟩
theorem Rch.mono {n m : Nat} {x y : Int} (h : Rch E typ n x y) (hm : n ≤ m) : Rch E typ m x y := by
  induction m with
  | zero => cases Nat.le_zero.1 hm; exact h
  | succ m ih =>
    rcases Nat.lt_or_ge n (m + 1) with h1 | h1
    · exact (ih (by omega)).succ
    · have : n = m + 1 := by omega
      exact this ▸ h
theorem Rch.ends : ∀ {n : Nat} {x y : Int}, Rch E typ n x y → ∃ e ∈ E, e.to_ = y
  | _ + 1, _, _, .inl ⟨e, h1, _, _, h4⟩ => ⟨e, h1, h4⟩
  | _ + 1, _, _, .inr ⟨_, _, e, h1, _, _, h4⟩ => ⟨e, h1, h4⟩
theorem Rch.from : ∀ {n : Nat} {x y : Int}, Rch E typ n x y → ∃ e ∈ E, e.from_ = x
  | _ + 1, _, _, .inl ⟨e, h1, _, h3, _⟩ => ⟨e, h1, h3⟩
  | _ + 1, _, _, .inr ⟨_, h, _⟩ => h.from

theorem nodup_le {α β : Type} [DecidableEq β] (f : α → β) : ∀ (E : List α) (l : List β), l.Nodup → (∀ y ∈ l, ∃ e ∈ E, f e = y) → l.length ≤ E.length
  | [], [], _, _ => Nat.le_refl _
  | [], y :: _, _, h => by obtain ⟨e, he, _⟩ := h y (.head _); cases he
  | e :: t, l, hn, h => by
    have h1 := nodup_le f t (l.erase (f e)) (hn.erase _) (fun y hy => by
      obtain ⟨hne, hy⟩ := (hn.mem_erase_iff).1 hy
      obtain ⟨e', he', rfl⟩ := h y hy
      rcases List.mem_cons.1 he' with rfl | he'
      · exact absurd rfl hne
      · exact ⟨e', he', rfl⟩)
    have h2 : l.length ≤ (l.erase (f e)).length + 1 := by
      rw [List.length_erase]
      split <;> omega
    simp only [List.length_cons]
    omega

structure FrI (E : List PEdge) (typ : ByteArray) (M nx r : List Int) (j : Nat) (seen : List PEdge) : Prop where
  nodup : (M ++ nx).Nodup
  new : ∀ y ∈ nx, ∃ x ∈ r, StepE E typ x y
  gone : ∀ x ∈ r.take j, ∀ y, StepE E typ x y → y ∈ M ∨ y ∈ nx
  seen : ∀ e ∈ seen, e.to_ ∈ M ∨ e.to_ ∈ nx
  ends : ∀ y ∈ M ++ nx, ∃ e ∈ E, e.to_ = y
theorem FrI.add {M nx r : List Int} {j : Nat} {seen : List PEdge} (h : FrI E typ M nx r j seen) {e : PEdge} {x : Int} (hx : r[j]? = some x) (he : e ∈ outsE E typ x) (hn : ¬ (e.to_ ∈ M ∨ e.to_ ∈ nx)) :
    FrI E typ M (nx ++ [e.to_]) r j (seen ++ [e]) := by
  have hin : ∀ y, y ∈ nx → y ∈ nx ++ [e.to_] := fun y hy => List.mem_append_left _ hy
  refine ⟨?_, ?_, fun x hx y hs => (h.gone x hx y hs).imp id (hin y), ?_, ?_⟩
  · rw [← List.append_assoc]
    refine List.nodup_append.2 ⟨h.nodup, by simp, ?_⟩
    intro a ha b hb
    rw [List.mem_singleton] at hb
    subst hb
    rintro rfl
    exact hn (List.mem_append.1 ha)
  · intro y hy
    rcases List.mem_append.1 hy with hy | hy
    · exact h.new y hy
    · rw [List.mem_singleton.1 hy]
      exact ⟨x, List.mem_of_getElem? hx, stepE_outs.2 ⟨e, he, rfl⟩⟩
  · intro e' he'
    rcases List.mem_append.1 he' with he' | he'
    · exact (h.seen e' he').imp id (hin _)
    · rw [List.mem_singleton.1 he']; exact .inr (by simp)
  · intro y hy
    rw [← List.append_assoc] at hy
    rcases List.mem_append.1 hy with hy | hy
    · exact h.ends y hy
    · rw [List.mem_singleton.1 hy]
      exact ⟨e, (List.mem_filter.1 he).1, rfl⟩
theorem FrI.next {M nx r : List Int} {j : Nat} {x : Int} (h : FrI E typ M nx r j (outsE E typ x)) (hx : r[j]? = some x) : FrI E typ M nx r (j + 1) [] := by
  refine ⟨h.nodup, h.new, ?_, by simp, h.ends⟩
  intro z hz y hs
  rw [List.take_add_one, hx] at hz
  rcases List.mem_append.1 hz with hz | hz
  · exact h.gone z hz y hs
  · obtain rfl : z = x := by simpa using hz
    obtain ⟨e, he, rfl⟩ := stepE_outs.1 hs
    exact h.seen e he
theorem FrI.len {M nx r : List Int} {j : Nat} {seen : List PEdge} (h : FrI E typ M nx r j seen) : M.length + nx.length ≤ E.length := by
  have := nodup_le (fun e : PEdge => e.to_) E _ h.nodup h.ends
  simpa using this

structure OutI (E : List PEdge) (typ : ByteArray) (id : Int) (M r : List Int) (k : Nat) : Prop where
  nodup : M.Nodup
  mem : ∀ y, y ∈ M ↔ Rch E typ k id y
  front : ∀ y ∈ r, Rch E typ k id y ∨ y = id
  shut : ∀ y, Rch E typ k id y ∨ y = id → y ∈ r ∨ ∀ z, StepE E typ y z → z ∈ M
theorem OutI.ends {id : Int} {M r : List Int} {k : Nat} (h : OutI E typ id M r k) : ∀ y ∈ M, ∃ e ∈ E, e.to_ = y := fun y hy => ((h.mem y).1 hy).ends
theorem OutI.next {id : Int} {M nx r : List Int} {k : Nat} (h : OutI E typ id M r k) (hf : FrI E typ M nx r r.length []) : OutI E typ id (M ++ nx) nx (k + 1) := by
  have hg : ∀ x ∈ r, ∀ y, StepE E typ x y → y ∈ M ∨ y ∈ nx := by
    have := hf.gone
    rwa [List.take_length] at this
  have hm : ∀ y, y ∈ M ++ nx ↔ Rch E typ (k + 1) id y := by
    intro y
    constructor
    · intro hy
      rcases List.mem_append.1 hy with hy | hy
      · exact ((h.mem y).1 hy).succ
      · obtain ⟨x, hx, hs⟩ := hf.new y hy
        rcases h.front x hx with hr | rfl
        · exact .inr ⟨x, hr, hs⟩
        · exact .inl hs
    · intro hy
      have key : ∀ x, Rch E typ k id x ∨ x = id → StepE E typ x y → y ∈ M ++ nx := by
        intro x hx hs
        rcases h.shut x hx with hr | hr
        · exact List.mem_append.2 (hg x hr y hs)
        · exact List.mem_append_left _ (hr y hs)
      rcases hy with hs | ⟨z, hz, hs⟩
      · exact key id (.inr rfl) hs
      · exact key z (.inl hz) hs
  refine ⟨hf.nodup, hm, fun y hy => .inl ((hm y).1 (List.mem_append_right _ hy)), ?_⟩
  intro y hy
  by_cases hn : y ∈ nx
  · exact .inl hn
  right
  intro z hs
  have hy' : Rch E typ k id y ∨ y = id := by
    rcases hy with hy | hy
    · rcases List.mem_append.1 ((hm y).2 hy) with r | r
      · exact .inl ((h.mem y).1 r)
      · exact absurd r hn
    · exact .inr hy
  rcases h.shut y hy' with hr | hr
  · exact List.mem_append.2 (hg y hr z hs)
  · exact List.mem_append_left _ (hr z hs)
def Wlk (E : List PEdge) (typ : ByteArray) (t : Int) : Nat → Int → Prop
  | 0, x => x = t
  | n + 1, x => ∃ z, StepE E typ x z ∧ Wlk E typ t n z
def Dst (E : List PEdge) (typ : ByteArray) (t : Int) (n : Nat) (x : Int) : Prop := Wlk E typ t n x ∧ ∀ m, m < n → ¬ Wlk E typ t m x
theorem Dst.uniq {t x : Int} {n m : Nat} (h : Dst E typ t n x) (h' : Dst E typ t m x) : n = m := by
  rcases Nat.lt_trichotomy n m with r | r | r
  · exact absurd h.1 (h'.2 n r)
  · exact r
  · exact absurd h'.1 (h.2 m r)
theorem Wlk.dst {t x : Int} {n : Nat} (h : Wlk E typ t n x) : ∃ d, d ≤ n ∧ Dst E typ t d x := by
  induction n using Nat.strongRecOn with
  | ind n ih =>
    by_cases hm : ∃ m, m < n ∧ Wlk E typ t m x
    · obtain ⟨m, hm, hw⟩ := hm
      obtain ⟨d, hd, h⟩ := ih m hm hw
      exact ⟨d, by omega, h⟩
    · exact ⟨n, Nat.le_refl _, h, fun m hlt hw => hm ⟨m, hlt, hw⟩⟩
theorem Dst.zero {t x : Int} : Dst E typ t 0 x ↔ x = t := ⟨fun h => h.1, fun h => ⟨h, fun _ hm => by omega⟩⟩
theorem Dst.step {t x : Int} {n : Nat} (h : Dst E typ t (n + 1) x) : ∃ z, StepE E typ x z ∧ Dst E typ t n z := by
  obtain ⟨⟨z, hs, hw⟩, hn⟩ := h
  refine ⟨z, hs, hw, fun m hm hw' => hn (m + 1) (by omega) ⟨z, hs, hw'⟩⟩
def PathR (E : List PEdge) (typ : ByteArray) (t : Int) : Nat → Int → List Int → Prop
  | 0, _, l => l = []
  | d + 1, x, l => ∃ pre e post l', outsE E typ x = pre ++ e :: post ∧ (∀ e' ∈ pre, ¬ Dst E typ t d e'.to_) ∧ Dst E typ t d e.to_ ∧ l = e.id :: l' ∧ PathR E typ t d e.to_ l'
def PathS (E : List PEdge) (typ : ByteArray) (x t : Int) (l : List Int) : Prop := (x = t ∧ l = []) ∨ (x ≠ t ∧ (∀ d, ¬ Wlk E typ t d x) ∧ l = []) ∨ (x ≠ t ∧ ∃ d, Dst E typ t d x ∧ PathR E typ t d x l)
theorem split_uniq {α : Type} {p : α → Prop} : ∀ {pre pre' post post' : List α} {e e' : α}, pre ++ e :: post = pre' ++ e' :: post' → (∀ x ∈ pre, ¬ p x) → (∀ x ∈ pre', ¬ p x) → p e → p e' → e = e'
  | [], [], _, _, _, _, h, _, _, _, _ => by simp at h; exact h.1
  | [], b :: s, _, _, e, e', h, _, h2, h3, _ => by
    simp at h
    exact absurd (h.1 ▸ h3) (h2 b (.head _))
  | a :: s, [], _, _, e, e', h, h1, _, _, h4 => by
    simp at h
    exact absurd (h.1 ▸ h4) (h1 a (.head _))
  | a :: s, b :: u, _, _, _, _, h, h1, h2, h3, h4 => by
    simp at h
    exact split_uniq h.2 (fun x hx => h1 x (.tail _ hx)) (fun x hx => h2 x (.tail _ hx)) h3 h4
theorem PathR.uniq {t : Int} : ∀ {d : Nat} {x : Int} {l l' : List Int}, PathR E typ t d x l → PathR E typ t d x l' → l = l'
  | 0, _, _, _, h, h' => h.trans h'.symm
  | d + 1, x, _, _, ⟨pre, e, post, l, h1, h2, h3, rfl, h4⟩, ⟨pre', e', post', l', h1', h2', h3', rfl, h4'⟩ => by
    have he : e = e' := split_uniq (p := fun e => Dst E typ t d e.to_) (h1.symm.trans h1') h2 h2' h3 h3'
    subst he
    exact congrArg (e.id :: ·) (h4.uniq h4')
theorem PathS.uniq {x t : Int} {l l' : List Int} (h : PathS E typ x t l) (h' : PathS E typ x t l') : l = l' := by
  rcases h with ⟨a, rfl⟩ | ⟨a, b, rfl⟩ | ⟨a, d, b, c⟩ <;> rcases h' with ⟨a', rfl⟩ | ⟨a', b', rfl⟩ | ⟨a', d', b', c'⟩
  · rfl
  · rfl
  · exact absurd a a'
  · rfl
  · rfl
  · exact absurd b'.1 (b _)
  · exact absurd a' a
  · exact absurd b.1 (b' _)
  · cases b.uniq b'
    exact c.uniq c'

structure QI (E : List PEdge) (typ : ByteArray) (t : Int) (f : Int → Option Nat) (dn todo : List Int) : Prop where
  nodup : (dn ++ todo).Nodup
  dom : ∀ x, x ∈ dn ++ todo ↔ ∃ d, f x = some d
  zero : f t = some 0
  walk : ∀ x d, f x = some d → Wlk E typ t d x
  cls : ∀ y ∈ dn, ∀ x d, StepE E typ x y → f y = some d → ∃ d', d' ≤ d + 1 ∧ f x = some d'
  mono : todo.Pairwise fun a b => ∀ d d', f a = some d → f b = some d' → d ≤ d'
  top : ∀ y s, todo = y :: s → ∀ x d d', f y = some d → f x = some d' → d' ≤ d + 1
  ends : ∀ x ∈ dn ++ todo, x = t ∨ ∃ e ∈ E, e.from_ = x
structure QP (E : List PEdge) (typ : ByteArray) (t : Int) (f : Int → Option Nat) (dn : List Int) (y : Int) (d : Nat) (todo : List Int) (seen : List PEdge) : Prop where
  nodup : (dn ++ y :: todo).Nodup
  dom : ∀ x, x ∈ dn ++ y :: todo ↔ ∃ d, f x = some d
  zero : f t = some 0
  walk : ∀ x d, f x = some d → Wlk E typ t d x
  cls : ∀ y ∈ dn, ∀ x d, StepE E typ x y → f y = some d → ∃ d', d' ≤ d + 1 ∧ f x = some d'
  mono : (y :: todo).Pairwise fun a b => ∀ d d', f a = some d → f b = some d' → d ≤ d'
  at_ : f y = some d
  top : ∀ x d', f x = some d' → d' ≤ d + 1
  seen : ∀ e ∈ seen, ∃ d', d' ≤ d + 1 ∧ f e.from_ = some d'
  ends : ∀ x ∈ dn ++ y :: todo, x = t ∨ ∃ e ∈ E, e.from_ = x
def nput (f : Int → Option Nat) (k : Int) (v : Nat) : Int → Option Nat := fun x => if x = k then some v else f x
theorem QI.open {t : Int} {f : Int → Option Nat} {dn s : List Int} {y : Int} (h : QI E typ t f dn (y :: s)) : ∃ d, f y = some d ∧ QP E typ t f dn y d s [] := by
  obtain ⟨d, hd⟩ := (h.dom y).1 (by simp)
  exact ⟨d, hd, h.nodup, h.dom, h.zero, h.walk, h.cls, h.mono, hd, fun x d' hx => h.top y s rfl x d d' hd hx, by simp, h.ends⟩
theorem nput_same (f : Int → Option Nat) (k : Int) (v : Nat) : nput f k v k = some v := by simp [nput]
theorem nput_other (f : Int → Option Nat) {k x : Int} (v : Nat) (h : x ≠ k) : nput f k v x = f x := by simp [nput, h]
theorem QP.add {t : Int} {f : Int → Option Nat} {dn s : List Int} {y : Int} {d : Nat} {seen : List PEdge} (h : QP E typ t f dn y d s seen) {e : PEdge} (hin : e ∈ insE E typ y) (he : f e.from_ = none) :
    QP E typ t (nput f e.from_ (d + 1)) dn y d (s ++ [e.from_]) (seen ++ [e]) := by
  obtain ⟨hE, hfit⟩ := List.mem_filter.1 hin
  rw [Bool.and_eq_true, decide_eq_true_eq] at hfit
  have hstep : StepE E typ e.from_ y := ⟨e, hE, hfit.1, rfl, hfit.2⟩
  have hnot : e.from_ ∉ dn ++ y :: s := fun hm => by obtain ⟨q, hq⟩ := (h.dom _).1 hm; rw [he] at hq; cases hq
  have hsame : ∀ {x q}, f x = some q → nput f e.from_ (d + 1) x = some q := fun {x q} hx => by
    rw [nput_other]
    · exact hx
    · rintro rfl; rw [he] at hx; cases hx
  have hback : ∀ {x q}, nput f e.from_ (d + 1) x = some q → (x = e.from_ ∧ q = d + 1) ∨ f x = some q := fun {x q} hx => by
    by_cases hxe : x = e.from_
    · subst hxe
      rw [nput_same] at hx
      exact .inl ⟨rfl, (Option.some.inj hx).symm⟩
    · rw [nput_other _ _ hxe] at hx
      exact .inr hx
  have hl : dn ++ y :: (s ++ [e.from_]) = (dn ++ y :: s) ++ [e.from_] := by simp
  refine ⟨?_, ?_, hsame h.zero, ?_, ?_, ?_, hsame h.at_, ?_, ?_, ?_⟩
  · rw [hl]
    refine List.nodup_append.2 ⟨h.nodup, by simp, ?_⟩
    intro a ha b hb
    rw [List.mem_singleton] at hb
    subst hb
    rintro rfl
    exact hnot ha
  · intro x
    rw [hl, List.mem_append, h.dom, List.mem_singleton]
    constructor
    · rintro (⟨q, hq⟩ | rfl)
      · exact ⟨q, hsame hq⟩
      · exact ⟨_, nput_same _ _ _⟩
    · rintro ⟨q, hq⟩
      rcases hback hq with ⟨r, -⟩ | r
      · exact .inr r
      · exact .inl ⟨q, r⟩
  · intro x q hq
    rcases hback hq with ⟨rfl, rfl⟩ | r
    · exact ⟨y, hstep, h.walk y d h.at_⟩
    · exact h.walk x q r
  · intro z hz x q hs hq
    rcases hback hq with ⟨rfl, rfl⟩ | r
    · exact absurd (List.mem_append_left _ hz) hnot
    · obtain ⟨d', h1, h2⟩ := h.cls z hz x q hs r
      exact ⟨d', h1, hsame h2⟩
  · rw [show y :: (s ++ [e.from_]) = (y :: s) ++ [e.from_] from rfl, List.pairwise_append]
    refine ⟨h.mono.imp_of_mem ?_, by simp, ?_⟩
    · intro a b ha hb hab q q' hq hq'
      rcases hback hq with ⟨rfl, rfl⟩ | r
      · exact absurd (List.mem_append_right _ ha) hnot
      rcases hback hq' with ⟨rfl, rfl⟩ | r'
      · exact absurd (List.mem_append_right _ hb) hnot
      exact hab q q' r r'
    · intro a ha b hb q q' hq hq'
      rw [List.mem_singleton] at hb
      subst hb
      rw [nput_same] at hq'
      cases hq'
      rcases hback hq with ⟨rfl, rfl⟩ | r
      · exact Nat.le_refl _
      · exact h.top a q r
  · intro x q hq
    rcases hback hq with ⟨-, rfl⟩ | r
    · exact Nat.le_refl _
    · exact h.top x q r
  · intro e' he'
    rcases List.mem_append.1 he' with he' | he'
    · obtain ⟨d', h1, h2⟩ := h.seen e' he'
      exact ⟨d', h1, hsame h2⟩
    · rw [List.mem_singleton.1 he']
      exact ⟨d + 1, Nat.le_refl _, nput_same _ _ _⟩
  · intro x hx
    rw [hl] at hx
    rcases List.mem_append.1 hx with hx | hx
    · exact h.ends x hx
    · rw [List.mem_singleton.1 hx]
      exact .inr ⟨e, hE, rfl⟩
theorem QP.next {t : Int} {f : Int → Option Nat} {dn s : List Int} {y : Int} {d : Nat} (h : QP E typ t f dn y d s (insE E typ y)) : QI E typ t f (dn ++ [y]) s := by
  have hl : dn ++ [y] ++ s = dn ++ y :: s := by simp
  refine ⟨by rw [hl]; exact h.nodup, fun x => by rw [hl]; exact h.dom x, h.zero, h.walk, ?_, (List.pairwise_cons.1 h.mono).2, ?_, by rw [hl]; exact h.ends⟩
  · intro z hz x q hs hq
    rcases List.mem_append.1 hz with hz | hz
    · exact h.cls z hz x q hs hq
    · rw [List.mem_singleton.1 hz] at hs hq
      rw [h.at_] at hq
      cases hq
      obtain ⟨e, he, rfl⟩ := stepE_ins.1 hs
      exact h.seen e he
  · rintro z u rfl x q q' hq hq'
    have h1 := (List.pairwise_cons.1 h.mono).1 z (.head _) d q h.at_ hq
    have h2 := h.top x q' hq'
    omega
theorem QI.len {t : Int} {f : Int → Option Nat} {dn todo : List Int} (h : QI E typ t f dn todo) : dn.length + todo.length ≤ E.length + 1 := by
  have := nodup_le (fun o : Option PEdge => match o with | none => t | some e => e.from_) (none :: E.map some) _ h.nodup (fun y hy => by
    rcases h.ends y hy with rfl | ⟨e, he, rfl⟩
    · exact ⟨none, .head _, rfl⟩
    · exact ⟨some e, .tail _ (List.mem_map.2 ⟨e, he, rfl⟩), rfl⟩)
  simpa using this
theorem QP.len {t : Int} {f : Int → Option Nat} {dn todo : List Int} {y : Int} {d : Nat} {seen : List PEdge} (h : QP E typ t f dn y d todo seen) : dn.length + todo.length + 1 ≤ E.length + 1 := by
  have := nodup_le (fun o : Option PEdge => match o with | none => t | some e => e.from_) (none :: E.map some) _ h.nodup (fun y hy => by
    rcases h.ends y hy with rfl | ⟨e, he, rfl⟩
    · exact ⟨none, .head _, rfl⟩
    · exact ⟨some e, .tail _ (List.mem_map.2 ⟨e, he, rfl⟩), rfl⟩)
  simp at this
  omega
end
end Go.Hg

namespace Go.Hg
section
variable {E : List PEdge} {typ : ByteArray}

def spotL (l : List Int) (n : Int) : Nat := (l.takeWhile fun x => decide (x < n)).length
def putL (l : List Int) (n : Int) : List Int := if n ∈ l then l else l.take (spotL l n) ++ n :: l.drop (spotL l n)
theorem take_spotL (l : List Int) (n : Int) : l.take (spotL l n) = l.takeWhile fun x => decide (x < n) := by
  have h := List.takeWhile_append_dropWhile (p := fun x => decide (x < n)) (l := l)
  have e : l.take (spotL l n) = ((l.takeWhile fun x => decide (x < n)) ++ l.dropWhile fun x => decide (x < n)).take (l.takeWhile fun x => decide (x < n)).length := by rw [h]; rfl
  rw [e]
  exact List.take_left' rfl
theorem drop_spotL (l : List Int) (n : Int) : l.drop (spotL l n) = l.dropWhile fun x => decide (x < n) := by
  have h := List.takeWhile_append_dropWhile (p := fun x => decide (x < n)) (l := l)
  have e : l.drop (spotL l n) = ((l.takeWhile fun x => decide (x < n)) ++ l.dropWhile fun x => decide (x < n)).drop (l.takeWhile fun x => decide (x < n)).length := by rw [h]; rfl
  rw [e]
  exact List.drop_left' rfl
theorem mem_putL (l : List Int) (n y : Int) : y ∈ putL l n ↔ y ∈ l ∨ y = n := by
  unfold putL
  split
  · constructor
    · exact .inl
    · rintro (h | rfl)
      · exact h
      · assumption
  · conv => rhs; rw [← List.take_append_drop (spotL l n) l]
    simp only [List.mem_append, List.mem_cons]
    constructor
    · rintro (h | h | h)
      · exact .inl (.inl h)
      · exact .inr h
      · exact .inl (.inr h)
    · rintro ((h | h) | h)
      · exact .inl h
      · exact .inr (.inr h)
      · exact .inr (.inl h)
theorem dropWhile_ge {n : Int} : ∀ {l : List Int}, l.Pairwise (· < ·) → ∀ x ∈ l.dropWhile (fun x => decide (x < n)), n ≤ x
  | [], _, x, hx => by cases hx
  | a :: t, h, x, hx => by
    rw [List.pairwise_cons] at h
    by_cases ha : a < n
    · rw [List.dropWhile_cons_of_pos (by simpa using ha)] at hx
      exact dropWhile_ge h.2 x hx
    · rw [List.dropWhile_cons_of_neg (by simpa using ha)] at hx
      rcases List.mem_cons.1 hx with rfl | hx
      · omega
      · have := h.1 x hx; omega
theorem takeWhile_lt {n : Int} : ∀ {l : List Int}, ∀ x ∈ l.takeWhile (fun x => decide (x < n)), x < n
  | [], x, hx => by cases hx
  | a :: t, x, hx => by
    by_cases ha : a < n
    · rw [List.takeWhile_cons_of_pos (by simpa using ha)] at hx
      rcases List.mem_cons.1 hx with rfl | hx
      · exact ha
      · exact takeWhile_lt x hx
    · rw [List.takeWhile_cons_of_neg (by simpa using ha)] at hx
      cases hx
theorem putL_rises {l : List Int} (h : l.Pairwise (· < ·)) (n : Int) : (putL l n).Pairwise (· < ·) := by
  unfold putL
  split
  · exact h
  · rename_i hn
    rw [take_spotL, drop_spotL]
    have hge : ∀ x ∈ l.dropWhile (fun x => decide (x < n)), n < x := fun x hx => by
      have h1 := dropWhile_ge h x hx
      have h2 : x ∈ l := (List.dropWhile_sublist _).subset hx
      have : x ≠ n := by rintro rfl; exact hn h2
      omega
    rw [List.pairwise_append, List.pairwise_cons]
    refine ⟨h.sublist (List.takeWhile_sublist _), ⟨hge, h.sublist (List.dropWhile_sublist _)⟩, ?_⟩
    intro a ha b hb
    have h1 := takeWhile_lt a ha
    rcases List.mem_cons.1 hb with rfl | hb
    · exact h1
    · have := hge b hb; omega
theorem RSet.put {l : List Int} {p : Int → Prop} (h : RSet l p) (n : Int) : RSet (putL l n) (fun y => p y ∨ y = n) :=
  ⟨putL_rises h.1 n, fun y => by rw [mem_putL, h.2]⟩
theorem rises_nodup {l : List Int} (h : l.Pairwise (· < ·)) : l.Nodup := h.imp fun {a b} hab => by omega
theorem RSet.len {l : List Int} {p : Int → Prop} (h : RSet l p) (f : PEdge → Int) (hp : ∀ y, p y → ∃ e ∈ E, f e = y) : l.length ≤ E.length := nodup_le f E l (rises_nodup h.1) (fun y hy => hp y ((h.2 y).1 hy))
theorem RSet.full {l l' : List Int} {p p' : Int → Prop} (h : RSet l p) (h' : RSet l' p') (hp : ∀ y, p y → p' y) (hl : l'.length = l.length) : ∀ y, p' y → p y := by
  intro y hy
  by_cases hn : p y
  · exact hn
  exfalso
  have hny : y ∉ l := fun hm => hn ((h.2 y).1 hm)
  have := nodup_le (id : Int → Int) l' (y :: l) (List.nodup_cons.2 ⟨hny, rises_nodup h.1⟩) (fun z hz => by
    rcases List.mem_cons.1 hz with rfl | hz
    · exact ⟨z, (h'.2 z).2 hy, rfl⟩
    · exact ⟨z, (h'.2 z).2 (hp z ((h.2 z).1 hz)), rfl⟩)
  simp only [List.length_cons] at this
  omega
theorem outs_split {x : Int} {i : Nat} {e : PEdge} (he : E[i]? = some e) (h1 : fitE typ e = true) (h2 : e.from_ = x) : outsE E typ x = outsE (E.take i) typ x ++ e :: outsE (E.drop (i + 1)) typ x := by
  have hl : E = E.take i ++ e :: E.drop (i + 1) := by
    obtain ⟨hi, rfl⟩ := List.getElem?_eq_some_iff.1 he
    rw [List.getElem_cons_drop, List.take_append_drop]
  conv => lhs; rw [hl]
  simp [outsE, List.filter_append, h1, h2]
theorem PathR.cons {t x : Int} {d i : Nat} {e : PEdge} {l : List Int} (he : E[i]? = some e) (h1 : fitE typ e = true) (h2 : e.from_ = x) (hn : ∀ e' ∈ E.take i, fitE typ e' = true → e'.from_ = x → ¬ Dst E typ t d e'.to_) (hd : Dst E typ t d e.to_)
    (hl : PathR E typ t d e.to_ l) : PathR E typ t (d + 1) x (e.id :: l) :=
  ⟨_, e, _, l, outs_split he h1 h2, fun e' he' => by
    obtain ⟨h3, h4⟩ := List.mem_filter.1 he'
    rw [Bool.and_eq_true, decide_eq_true_eq] at h4
    exact hn e' h3 h4.1 h4.2, hd, rfl, hl⟩
theorem Wlk.ends {t x : Int} {d : Nat} (h : Wlk E typ t d x) (hne : x ≠ t) : (∃ e ∈ E, e.from_ = x) ∧ ∃ e ∈ E, e.to_ = t := by
  have key : ∀ d x, Wlk E typ t (d + 1) x → ∃ e ∈ E, e.to_ = t := by
    intro d
    induction d with
    | zero => rintro x ⟨z, ⟨e, he, -, -, h4⟩, rfl⟩; exact ⟨e, he, h4⟩
    | succ d ih => rintro x ⟨z, -, hw⟩; exact ih z hw
  cases d with
  | zero => exact absurd h hne
  | succ d =>
    refine ⟨?_, key d x h⟩
    obtain ⟨z, ⟨e, he, -, h3, -⟩, -⟩ := h
    exact ⟨e, he, h3⟩
end
end Go.Hg

namespace Go.Hg

def getP (ps : List PProp) (name : ByteArray) : Option PVal := (ps.find? fun p => decide (p.name = name)).map (·.v)
def formR (r : PRule) : Bool :=
  decide (NameOk r.typ) && (
    if r.kind = 1 ∨ r.kind = 2 then decide (NameOk r.name) && (decide (r.from_ = ByteArray.empty) && (decide (r.to_ = ByteArray.empty) && decide (r.n = 0)))
    else if r.kind = 3 then decide (NameOk r.from_) && (decide (NameOk r.to_) && (decide (r.name = ByteArray.empty) && decide (r.n = 0)))
    else if r.kind = 4 then decide (r.name = ByteArray.empty) && (decide (r.from_ = ByteArray.empty) && (decide (r.to_ = ByteArray.empty) && (decide (0 ≤ r.n) && decide (r.n ≤ 1024))))
    else false)
def valR (r : PRule) (n : PNode) : Option PVal := if n.typ = r.typ then getP n.props r.name else none
def lacksR (r : PRule) (n : PNode) : Bool := decide (n.typ = r.typ) && (getP n.props r.name).isNone
def typeN (nodes : List PNode) (id : Int) : Option ByteArray := (nodes.find? fun x => decide (x.id = id)).map (·.typ)
def isT (nodes : List PNode) (id : Int) (typ : ByteArray) : Bool := decide (typeN nodes id = some typ)
def wrongR (nodes : List PNode) (r : PRule) (e : PEdge) : Bool := decide (e.typ = r.typ) && !(isT nodes e.from_ r.from_ && isT nodes e.to_ r.to_)
def outR (edges : List PEdge) (r : PRule) (x : Int) : Nat := (edges.filter fun e => decide (e.typ = r.typ) && decide (e.from_ = x)).length
def doubR (nodes : List PNode) (r : PRule) (n : PNode) : Bool := match valR r n with
  | none => false
  | some v => decide (2 ≤ (nodes.filterMap (valR r)).count v)
end Go.Hg

namespace Go.Hg
open Go.RowKit Go.Proofs

theorem zeroAct (w : World) : (zeroValue 129).run Tryz.prog w = .ok (.agg #[.nilFunc, .nilFunc]) w := by kernel_rfl

set_option maxRecDepth 100000 in
set_option maxHeartbeats 1000000 in
theorem acts1 (w : World) : Calls Tryz.prog 75 #[.int .i64 1] w fun e w' => e = .returned (.tuple #[.agg #[.func (.func 112) #[] #[], .func (.func 113) #[] #[]], .bool true]) ∧ Grow w w' := by
  have hsz : (w.alloc (.cells #[.nilFunc, .nilFunc] 129)).heap.size = w.heap.size + 1 := by simp
  have hT : Tryz.prog.underlying 178 = some (.map 3 129) := Tryz.underlying178
  have hI : Tryz.prog.underlying 3 = some (.int .i64) := Tryz.underlying3
  have i1 := run_ins _ _ hsz hT hI #[] 0 1 (.agg #[.func (.func 112) #[] #[], .func (.func 113) #[] #[]]) rfl
  have i2 := run_ins _ _ hsz hT hI #[{ key := .int .i64 1, val := .agg #[.func (.func 112) #[] #[], .func (.func 113) #[] #[]], born := 0 }] 1 2 (.agg #[.func (.func 114) #[] #[], .func (.func 115) #[] #[]]) rfl
  have i3 := run_ins _ _ hsz hT hI #[{ key := .int .i64 1, val := .agg #[.func (.func 112) #[] #[], .func (.func 113) #[] #[]], born := 0 }, { key := .int .i64 2, val := .agg #[.func (.func 114) #[] #[], .func (.func 115) #[] #[]], born := 1 }] 2 3 (.agg #[.func (.func 116) #[] #[], .func (.func 117) #[] #[]]) rfl
  have i4 := run_ins _ _ hsz hT hI #[{ key := .int .i64 1, val := .agg #[.func (.func 112) #[] #[], .func (.func 113) #[] #[]], born := 0 }, { key := .int .i64 2, val := .agg #[.func (.func 114) #[] #[], .func (.func 115) #[] #[]], born := 1 }, { key := .int .i64 3, val := .agg #[.func (.func 116) #[] #[], .func (.func 117) #[] #[]], born := 2 }] 3 4 (.agg #[.func (.func 118) #[] #[], .func (.func 119) #[] #[]]) rfl
  have i5 := run_ins _ _ hsz hT hI #[{ key := .int .i64 1, val := .agg #[.func (.func 112) #[] #[], .func (.func 113) #[] #[]], born := 0 }, { key := .int .i64 2, val := .agg #[.func (.func 114) #[] #[], .func (.func 115) #[] #[]], born := 1 }, { key := .int .i64 3, val := .agg #[.func (.func 116) #[] #[], .func (.func 117) #[] #[]], born := 2 }, { key := .int .i64 4, val := .agg #[.func (.func 118) #[] #[], .func (.func 119) #[] #[]], born := 3 }] 4 5 (.agg #[.func (.func 120) #[] #[], .func (.func 121) #[] #[]]) rfl
  simp only [List.push_toArray, List.cons_append, List.nil_append, Nat.reduceAdd] at i1 i2 i3 i4 i5
  have hmm := @run_makeMap Tryz.prog
  have HG := Lib.hid (show ∀ o1 o2 o3, Grow w (((w.alloc o1).alloc o2).alloc o3) from fun o1 o2 o3 => (((Grow.rfl' w).allocd o1).allocd o2).allocd o3)
  have lk := run_look_hit _ _ hsz hT hI #[{ key := .int .i64 1, val := .agg #[.func (.func 112) #[] #[], .func (.func 113) #[] #[]], born := 0 }, { key := .int .i64 2, val := .agg #[.func (.func 114) #[] #[], .func (.func 115) #[] #[]], born := 1 }, { key := .int .i64 3, val := .agg #[.func (.func 116) #[] #[], .func (.func 117) #[] #[]], born := 2 }, { key := .int .i64 4, val := .agg #[.func (.func 118) #[] #[], .func (.func 119) #[] #[]], born := 3 }, { key := .int .i64 5, val := .agg #[.func (.func 120) #[] #[], .func (.func 121) #[] #[]], born := 4 }] 5 1 0 _ rfl
  clear hsz
  go_enter Tryz.func75, Tryz.ntmps75
  go_wp2
  refine bodyPost_ret (v := .tuple #[.agg #[.func (.func 112) #[] #[], .func (.func 113) #[] #[]], .bool true]) ?_ rfl ⟨rfl, HG.out _ _ _⟩
  rw [results_cell_tmp rfl]
  go_simp

set_option maxRecDepth 100000 in
set_option maxHeartbeats 1000000 in
theorem acts2 (w : World) : Calls Tryz.prog 75 #[.int .i64 2] w fun e w' => e = .returned (.tuple #[.agg #[.func (.func 114) #[] #[], .func (.func 115) #[] #[]], .bool true]) ∧ Grow w w' := by
  have hsz : (w.alloc (.cells #[.nilFunc, .nilFunc] 129)).heap.size = w.heap.size + 1 := by simp
  have hT : Tryz.prog.underlying 178 = some (.map 3 129) := Tryz.underlying178
  have hI : Tryz.prog.underlying 3 = some (.int .i64) := Tryz.underlying3
  have i1 := run_ins _ _ hsz hT hI #[] 0 1 (.agg #[.func (.func 112) #[] #[], .func (.func 113) #[] #[]]) rfl
  have i2 := run_ins _ _ hsz hT hI #[{ key := .int .i64 1, val := .agg #[.func (.func 112) #[] #[], .func (.func 113) #[] #[]], born := 0 }] 1 2 (.agg #[.func (.func 114) #[] #[], .func (.func 115) #[] #[]]) rfl
  have i3 := run_ins _ _ hsz hT hI #[{ key := .int .i64 1, val := .agg #[.func (.func 112) #[] #[], .func (.func 113) #[] #[]], born := 0 }, { key := .int .i64 2, val := .agg #[.func (.func 114) #[] #[], .func (.func 115) #[] #[]], born := 1 }] 2 3 (.agg #[.func (.func 116) #[] #[], .func (.func 117) #[] #[]]) rfl
  have i4 := run_ins _ _ hsz hT hI #[{ key := .int .i64 1, val := .agg #[.func (.func 112) #[] #[], .func (.func 113) #[] #[]], born := 0 }, { key := .int .i64 2, val := .agg #[.func (.func 114) #[] #[], .func (.func 115) #[] #[]], born := 1 }, { key := .int .i64 3, val := .agg #[.func (.func 116) #[] #[], .func (.func 117) #[] #[]], born := 2 }] 3 4 (.agg #[.func (.func 118) #[] #[], .func (.func 119) #[] #[]]) rfl
  have i5 := run_ins _ _ hsz hT hI #[{ key := .int .i64 1, val := .agg #[.func (.func 112) #[] #[], .func (.func 113) #[] #[]], born := 0 }, { key := .int .i64 2, val := .agg #[.func (.func 114) #[] #[], .func (.func 115) #[] #[]], born := 1 }, { key := .int .i64 3, val := .agg #[.func (.func 116) #[] #[], .func (.func 117) #[] #[]], born := 2 }, { key := .int .i64 4, val := .agg #[.func (.func 118) #[] #[], .func (.func 119) #[] #[]], born := 3 }] 4 5 (.agg #[.func (.func 120) #[] #[], .func (.func 121) #[] #[]]) rfl
  simp only [List.push_toArray, List.cons_append, List.nil_append, Nat.reduceAdd] at i1 i2 i3 i4 i5
  have hmm := @run_makeMap Tryz.prog
  have HG := Lib.hid (show ∀ o1 o2 o3, Grow w (((w.alloc o1).alloc o2).alloc o3) from fun o1 o2 o3 => (((Grow.rfl' w).allocd o1).allocd o2).allocd o3)
  have lk := run_look_hit _ _ hsz hT hI #[{ key := .int .i64 1, val := .agg #[.func (.func 112) #[] #[], .func (.func 113) #[] #[]], born := 0 }, { key := .int .i64 2, val := .agg #[.func (.func 114) #[] #[], .func (.func 115) #[] #[]], born := 1 }, { key := .int .i64 3, val := .agg #[.func (.func 116) #[] #[], .func (.func 117) #[] #[]], born := 2 }, { key := .int .i64 4, val := .agg #[.func (.func 118) #[] #[], .func (.func 119) #[] #[]], born := 3 }, { key := .int .i64 5, val := .agg #[.func (.func 120) #[] #[], .func (.func 121) #[] #[]], born := 4 }] 5 2 1 _ rfl
  clear hsz
  go_enter Tryz.func75, Tryz.ntmps75
  go_wp2
  refine bodyPost_ret (v := .tuple #[.agg #[.func (.func 114) #[] #[], .func (.func 115) #[] #[]], .bool true]) ?_ rfl ⟨rfl, HG.out _ _ _⟩
  rw [results_cell_tmp rfl]
  go_simp

set_option maxRecDepth 100000 in
set_option maxHeartbeats 1000000 in
theorem acts3 (w : World) : Calls Tryz.prog 75 #[.int .i64 3] w fun e w' => e = .returned (.tuple #[.agg #[.func (.func 116) #[] #[], .func (.func 117) #[] #[]], .bool true]) ∧ Grow w w' := by
  have hsz : (w.alloc (.cells #[.nilFunc, .nilFunc] 129)).heap.size = w.heap.size + 1 := by simp
  have hT : Tryz.prog.underlying 178 = some (.map 3 129) := Tryz.underlying178
  have hI : Tryz.prog.underlying 3 = some (.int .i64) := Tryz.underlying3
  have i1 := run_ins _ _ hsz hT hI #[] 0 1 (.agg #[.func (.func 112) #[] #[], .func (.func 113) #[] #[]]) rfl
  have i2 := run_ins _ _ hsz hT hI #[{ key := .int .i64 1, val := .agg #[.func (.func 112) #[] #[], .func (.func 113) #[] #[]], born := 0 }] 1 2 (.agg #[.func (.func 114) #[] #[], .func (.func 115) #[] #[]]) rfl
  have i3 := run_ins _ _ hsz hT hI #[{ key := .int .i64 1, val := .agg #[.func (.func 112) #[] #[], .func (.func 113) #[] #[]], born := 0 }, { key := .int .i64 2, val := .agg #[.func (.func 114) #[] #[], .func (.func 115) #[] #[]], born := 1 }] 2 3 (.agg #[.func (.func 116) #[] #[], .func (.func 117) #[] #[]]) rfl
  have i4 := run_ins _ _ hsz hT hI #[{ key := .int .i64 1, val := .agg #[.func (.func 112) #[] #[], .func (.func 113) #[] #[]], born := 0 }, { key := .int .i64 2, val := .agg #[.func (.func 114) #[] #[], .func (.func 115) #[] #[]], born := 1 }, { key := .int .i64 3, val := .agg #[.func (.func 116) #[] #[], .func (.func 117) #[] #[]], born := 2 }] 3 4 (.agg #[.func (.func 118) #[] #[], .func (.func 119) #[] #[]]) rfl
  have i5 := run_ins _ _ hsz hT hI #[{ key := .int .i64 1, val := .agg #[.func (.func 112) #[] #[], .func (.func 113) #[] #[]], born := 0 }, { key := .int .i64 2, val := .agg #[.func (.func 114) #[] #[], .func (.func 115) #[] #[]], born := 1 }, { key := .int .i64 3, val := .agg #[.func (.func 116) #[] #[], .func (.func 117) #[] #[]], born := 2 }, { key := .int .i64 4, val := .agg #[.func (.func 118) #[] #[], .func (.func 119) #[] #[]], born := 3 }] 4 5 (.agg #[.func (.func 120) #[] #[], .func (.func 121) #[] #[]]) rfl
  simp only [List.push_toArray, List.cons_append, List.nil_append, Nat.reduceAdd] at i1 i2 i3 i4 i5
  have hmm := @run_makeMap Tryz.prog
  have HG := Lib.hid (show ∀ o1 o2 o3, Grow w (((w.alloc o1).alloc o2).alloc o3) from fun o1 o2 o3 => (((Grow.rfl' w).allocd o1).allocd o2).allocd o3)
  have lk := run_look_hit _ _ hsz hT hI #[{ key := .int .i64 1, val := .agg #[.func (.func 112) #[] #[], .func (.func 113) #[] #[]], born := 0 }, { key := .int .i64 2, val := .agg #[.func (.func 114) #[] #[], .func (.func 115) #[] #[]], born := 1 }, { key := .int .i64 3, val := .agg #[.func (.func 116) #[] #[], .func (.func 117) #[] #[]], born := 2 }, { key := .int .i64 4, val := .agg #[.func (.func 118) #[] #[], .func (.func 119) #[] #[]], born := 3 }, { key := .int .i64 5, val := .agg #[.func (.func 120) #[] #[], .func (.func 121) #[] #[]], born := 4 }] 5 3 2 _ rfl
  clear hsz
  go_enter Tryz.func75, Tryz.ntmps75
  go_wp2
  refine bodyPost_ret (v := .tuple #[.agg #[.func (.func 116) #[] #[], .func (.func 117) #[] #[]], .bool true]) ?_ rfl ⟨rfl, HG.out _ _ _⟩
  rw [results_cell_tmp rfl]
  go_simp

set_option maxRecDepth 100000 in
set_option maxHeartbeats 1000000 in
theorem acts4 (w : World) : Calls Tryz.prog 75 #[.int .i64 4] w fun e w' => e = .returned (.tuple #[.agg #[.func (.func 118) #[] #[], .func (.func 119) #[] #[]], .bool true]) ∧ Grow w w' := by
  have hsz : (w.alloc (.cells #[.nilFunc, .nilFunc] 129)).heap.size = w.heap.size + 1 := by simp
  have hT : Tryz.prog.underlying 178 = some (.map 3 129) := Tryz.underlying178
  have hI : Tryz.prog.underlying 3 = some (.int .i64) := Tryz.underlying3
  have i1 := run_ins _ _ hsz hT hI #[] 0 1 (.agg #[.func (.func 112) #[] #[], .func (.func 113) #[] #[]]) rfl
  have i2 := run_ins _ _ hsz hT hI #[{ key := .int .i64 1, val := .agg #[.func (.func 112) #[] #[], .func (.func 113) #[] #[]], born := 0 }] 1 2 (.agg #[.func (.func 114) #[] #[], .func (.func 115) #[] #[]]) rfl
  have i3 := run_ins _ _ hsz hT hI #[{ key := .int .i64 1, val := .agg #[.func (.func 112) #[] #[], .func (.func 113) #[] #[]], born := 0 }, { key := .int .i64 2, val := .agg #[.func (.func 114) #[] #[], .func (.func 115) #[] #[]], born := 1 }] 2 3 (.agg #[.func (.func 116) #[] #[], .func (.func 117) #[] #[]]) rfl
  have i4 := run_ins _ _ hsz hT hI #[{ key := .int .i64 1, val := .agg #[.func (.func 112) #[] #[], .func (.func 113) #[] #[]], born := 0 }, { key := .int .i64 2, val := .agg #[.func (.func 114) #[] #[], .func (.func 115) #[] #[]], born := 1 }, { key := .int .i64 3, val := .agg #[.func (.func 116) #[] #[], .func (.func 117) #[] #[]], born := 2 }] 3 4 (.agg #[.func (.func 118) #[] #[], .func (.func 119) #[] #[]]) rfl
  have i5 := run_ins _ _ hsz hT hI #[{ key := .int .i64 1, val := .agg #[.func (.func 112) #[] #[], .func (.func 113) #[] #[]], born := 0 }, { key := .int .i64 2, val := .agg #[.func (.func 114) #[] #[], .func (.func 115) #[] #[]], born := 1 }, { key := .int .i64 3, val := .agg #[.func (.func 116) #[] #[], .func (.func 117) #[] #[]], born := 2 }, { key := .int .i64 4, val := .agg #[.func (.func 118) #[] #[], .func (.func 119) #[] #[]], born := 3 }] 4 5 (.agg #[.func (.func 120) #[] #[], .func (.func 121) #[] #[]]) rfl
  simp only [List.push_toArray, List.cons_append, List.nil_append, Nat.reduceAdd] at i1 i2 i3 i4 i5
  have hmm := @run_makeMap Tryz.prog
  have HG := Lib.hid (show ∀ o1 o2 o3, Grow w (((w.alloc o1).alloc o2).alloc o3) from fun o1 o2 o3 => (((Grow.rfl' w).allocd o1).allocd o2).allocd o3)
  have lk := run_look_hit _ _ hsz hT hI #[{ key := .int .i64 1, val := .agg #[.func (.func 112) #[] #[], .func (.func 113) #[] #[]], born := 0 }, { key := .int .i64 2, val := .agg #[.func (.func 114) #[] #[], .func (.func 115) #[] #[]], born := 1 }, { key := .int .i64 3, val := .agg #[.func (.func 116) #[] #[], .func (.func 117) #[] #[]], born := 2 }, { key := .int .i64 4, val := .agg #[.func (.func 118) #[] #[], .func (.func 119) #[] #[]], born := 3 }, { key := .int .i64 5, val := .agg #[.func (.func 120) #[] #[], .func (.func 121) #[] #[]], born := 4 }] 5 4 3 _ rfl
  clear hsz
  go_enter Tryz.func75, Tryz.ntmps75
  go_wp2
  refine bodyPost_ret (v := .tuple #[.agg #[.func (.func 118) #[] #[], .func (.func 119) #[] #[]], .bool true]) ?_ rfl ⟨rfl, HG.out _ _ _⟩
  rw [results_cell_tmp rfl]
  go_simp

set_option maxRecDepth 100000 in
set_option maxHeartbeats 1000000 in
theorem acts5 (w : World) : Calls Tryz.prog 75 #[.int .i64 5] w fun e w' => e = .returned (.tuple #[.agg #[.func (.func 120) #[] #[], .func (.func 121) #[] #[]], .bool true]) ∧ Grow w w' := by
  have hsz : (w.alloc (.cells #[.nilFunc, .nilFunc] 129)).heap.size = w.heap.size + 1 := by simp
  have hT : Tryz.prog.underlying 178 = some (.map 3 129) := Tryz.underlying178
  have hI : Tryz.prog.underlying 3 = some (.int .i64) := Tryz.underlying3
  have i1 := run_ins _ _ hsz hT hI #[] 0 1 (.agg #[.func (.func 112) #[] #[], .func (.func 113) #[] #[]]) rfl
  have i2 := run_ins _ _ hsz hT hI #[{ key := .int .i64 1, val := .agg #[.func (.func 112) #[] #[], .func (.func 113) #[] #[]], born := 0 }] 1 2 (.agg #[.func (.func 114) #[] #[], .func (.func 115) #[] #[]]) rfl
  have i3 := run_ins _ _ hsz hT hI #[{ key := .int .i64 1, val := .agg #[.func (.func 112) #[] #[], .func (.func 113) #[] #[]], born := 0 }, { key := .int .i64 2, val := .agg #[.func (.func 114) #[] #[], .func (.func 115) #[] #[]], born := 1 }] 2 3 (.agg #[.func (.func 116) #[] #[], .func (.func 117) #[] #[]]) rfl
  have i4 := run_ins _ _ hsz hT hI #[{ key := .int .i64 1, val := .agg #[.func (.func 112) #[] #[], .func (.func 113) #[] #[]], born := 0 }, { key := .int .i64 2, val := .agg #[.func (.func 114) #[] #[], .func (.func 115) #[] #[]], born := 1 }, { key := .int .i64 3, val := .agg #[.func (.func 116) #[] #[], .func (.func 117) #[] #[]], born := 2 }] 3 4 (.agg #[.func (.func 118) #[] #[], .func (.func 119) #[] #[]]) rfl
  have i5 := run_ins _ _ hsz hT hI #[{ key := .int .i64 1, val := .agg #[.func (.func 112) #[] #[], .func (.func 113) #[] #[]], born := 0 }, { key := .int .i64 2, val := .agg #[.func (.func 114) #[] #[], .func (.func 115) #[] #[]], born := 1 }, { key := .int .i64 3, val := .agg #[.func (.func 116) #[] #[], .func (.func 117) #[] #[]], born := 2 }, { key := .int .i64 4, val := .agg #[.func (.func 118) #[] #[], .func (.func 119) #[] #[]], born := 3 }] 4 5 (.agg #[.func (.func 120) #[] #[], .func (.func 121) #[] #[]]) rfl
  simp only [List.push_toArray, List.cons_append, List.nil_append, Nat.reduceAdd] at i1 i2 i3 i4 i5
  have hmm := @run_makeMap Tryz.prog
  have HG := Lib.hid (show ∀ o1 o2 o3, Grow w (((w.alloc o1).alloc o2).alloc o3) from fun o1 o2 o3 => (((Grow.rfl' w).allocd o1).allocd o2).allocd o3)
  have lk := run_look_hit _ _ hsz hT hI #[{ key := .int .i64 1, val := .agg #[.func (.func 112) #[] #[], .func (.func 113) #[] #[]], born := 0 }, { key := .int .i64 2, val := .agg #[.func (.func 114) #[] #[], .func (.func 115) #[] #[]], born := 1 }, { key := .int .i64 3, val := .agg #[.func (.func 116) #[] #[], .func (.func 117) #[] #[]], born := 2 }, { key := .int .i64 4, val := .agg #[.func (.func 118) #[] #[], .func (.func 119) #[] #[]], born := 3 }, { key := .int .i64 5, val := .agg #[.func (.func 120) #[] #[], .func (.func 121) #[] #[]], born := 4 }] 5 5 4 _ rfl
  clear hsz
  go_enter Tryz.func75, Tryz.ntmps75
  go_wp2
  refine bodyPost_ret (v := .tuple #[.agg #[.func (.func 120) #[] #[], .func (.func 121) #[] #[]], .bool true]) ?_ rfl ⟨rfl, HG.out _ _ _⟩
  rw [results_cell_tmp rfl]
  go_simp

set_option maxRecDepth 100000 in
set_option maxHeartbeats 1000000 in
theorem acts0 (k : Int) (w : World) (h1 : k ≠ 1) (h2 : k ≠ 2) (h3 : k ≠ 3) (h4 : k ≠ 4) (h5 : k ≠ 5) : Calls Tryz.prog 75 #[.int .i64 k] w fun e w' => e = .returned (.tuple #[.agg #[.nilFunc, .nilFunc], .bool false]) ∧ Grow w w' := by
  have hsz : (w.alloc (.cells #[.nilFunc, .nilFunc] 129)).heap.size = w.heap.size + 1 := by simp
  have hT : Tryz.prog.underlying 178 = some (.map 3 129) := Tryz.underlying178
  have hI : Tryz.prog.underlying 3 = some (.int .i64) := Tryz.underlying3
  have i1 := run_ins _ _ hsz hT hI #[] 0 1 (.agg #[.func (.func 112) #[] #[], .func (.func 113) #[] #[]]) rfl
  have i2 := run_ins _ _ hsz hT hI #[{ key := .int .i64 1, val := .agg #[.func (.func 112) #[] #[], .func (.func 113) #[] #[]], born := 0 }] 1 2 (.agg #[.func (.func 114) #[] #[], .func (.func 115) #[] #[]]) rfl
  have i3 := run_ins _ _ hsz hT hI #[{ key := .int .i64 1, val := .agg #[.func (.func 112) #[] #[], .func (.func 113) #[] #[]], born := 0 }, { key := .int .i64 2, val := .agg #[.func (.func 114) #[] #[], .func (.func 115) #[] #[]], born := 1 }] 2 3 (.agg #[.func (.func 116) #[] #[], .func (.func 117) #[] #[]]) rfl
  have i4 := run_ins _ _ hsz hT hI #[{ key := .int .i64 1, val := .agg #[.func (.func 112) #[] #[], .func (.func 113) #[] #[]], born := 0 }, { key := .int .i64 2, val := .agg #[.func (.func 114) #[] #[], .func (.func 115) #[] #[]], born := 1 }, { key := .int .i64 3, val := .agg #[.func (.func 116) #[] #[], .func (.func 117) #[] #[]], born := 2 }] 3 4 (.agg #[.func (.func 118) #[] #[], .func (.func 119) #[] #[]]) rfl
  have i5 := run_ins _ _ hsz hT hI #[{ key := .int .i64 1, val := .agg #[.func (.func 112) #[] #[], .func (.func 113) #[] #[]], born := 0 }, { key := .int .i64 2, val := .agg #[.func (.func 114) #[] #[], .func (.func 115) #[] #[]], born := 1 }, { key := .int .i64 3, val := .agg #[.func (.func 116) #[] #[], .func (.func 117) #[] #[]], born := 2 }, { key := .int .i64 4, val := .agg #[.func (.func 118) #[] #[], .func (.func 119) #[] #[]], born := 3 }] 4 5 (.agg #[.func (.func 120) #[] #[], .func (.func 121) #[] #[]]) rfl
  simp only [List.push_toArray, List.cons_append, List.nil_append, Nat.reduceAdd] at i1 i2 i3 i4 i5
  have hmm := @run_makeMap Tryz.prog
  have HG := Lib.hid (show ∀ o1 o2 o3, Grow w (((w.alloc o1).alloc o2).alloc o3) from fun o1 o2 o3 => (((Grow.rfl' w).allocd o1).allocd o2).allocd o3)
  have lk := run_look_miss _ _ hsz hT hI #[{ key := .int .i64 1, val := .agg #[.func (.func 112) #[] #[], .func (.func 113) #[] #[]], born := 0 }, { key := .int .i64 2, val := .agg #[.func (.func 114) #[] #[], .func (.func 115) #[] #[]], born := 1 }, { key := .int .i64 3, val := .agg #[.func (.func 116) #[] #[], .func (.func 117) #[] #[]], born := 2 }, { key := .int .i64 4, val := .agg #[.func (.func 118) #[] #[], .func (.func 119) #[] #[]], born := 3 }, { key := .int .i64 5, val := .agg #[.func (.func 120) #[] #[], .func (.func 121) #[] #[]], born := 4 }] 5 k _ zeroAct (by simp [Instr.findNow, Instr.sameNow, beq_eq_false_iff_ne.2 h1, beq_eq_false_iff_ne.2 h2, beq_eq_false_iff_ne.2 h3, beq_eq_false_iff_ne.2 h4, beq_eq_false_iff_ne.2 h5])
  clear hsz h1 h2 h3 h4 h5
  go_enter Tryz.func75, Tryz.ntmps75
  go_wp2
  refine bodyPost_ret (v := .tuple #[.agg #[.nilFunc, .nilFunc], .bool false]) ?_ rfl ⟨rfl, HG.out _ _ _⟩
  rw [results_cell_tmp rfl]
  go_simp
end Go.Hg
