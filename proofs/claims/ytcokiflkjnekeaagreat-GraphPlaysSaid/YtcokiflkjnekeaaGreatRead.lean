/- graph.node, edge of a graph that is only read; Nodes, Edges: copies. Condition: at most 2^40 of each. Printed by genread.py. -/
import Derived.Test.YtcokiflkjnekeaaGreatPropB
import Derived.Laws.ResultCell
namespace Go.Hg
open Go.RowKit Go.Proofs

/-- a graph behind a pointer, to be read -/
def GraphRd (T : TypeId) (S : Nat → Prop) (w : World) (B : Nat) (G : PGraph) : Prop :=
  ∃ nv ev : Value, w.heap[B]? = some (.cells #[nv, ev, .int .i64 G.next] T (0, 0)) ∧ NodesR S w nv G.nodes ∧ EdgesR S w ev G.edges
theorem GraphOk.rd {T : TypeId} {S : Nat → Prop} {w : World} {B : Nat} {G : PGraph} (h : GraphOk T S w B G) : GraphRd T S w B G := by
  obtain ⟨nv, ev, R, on, oe, h1, h2, h3, h4, h5, h6, h7, h8⟩ := h
  exact ⟨nv, ev, h1, SlR.sub (h7.toSl (S := S) (fun g hg => (h5 g hg).1)) (fun _ h => h) (fun x r _ hR => hR.sub (fun b hb => (h4 b hb).1)), SlR.sub (h8.toSl (S := S) (fun g hg => (h6 g hg).1)) (fun _ h => h) (fun x r _ hR => hR.sub (fun b hb => (h4 b hb).1))⟩
theorem GraphRd.grow {T : TypeId} {S : Nat → Prop} {w w' : World} {B : Nat} {G : PGraph} (h : GraphRd T S w B G) (g : Grow w w') : GraphRd T S w' B G := by
  obtain ⟨nv, ev, h1, h2, h3⟩ := h
  exact ⟨nv, ev, (g.heapEq (blk_lt h1)).trans h1, h2.grow g, h3.grow g⟩
/-- what a walk reads -/
theorem GraphRd.read {T : TypeId} {S : Nat → Prop} {w : World} {B : Nat} {G : PGraph} (h : GraphRd T S w B G) :
    ∃ na nc ea ec, B < w.heap.size ∧ w.cell? ⟨B, 0, none⟩ = some (.slice na G.nodes.length nc) ∧ w.cell? ⟨B, 1, none⟩ = some (.slice ea G.edges.length ec) ∧ w.cell? ⟨B, 2, none⟩ = some (.int .i64 G.next) ∧
      NodesR S w (.slice na G.nodes.length nc) G.nodes ∧ EdgesR S w (.slice ea G.edges.length ec) G.edges := by
  obtain ⟨nv, ev, h1, hn, he⟩ := h
  obtain ⟨na, nc, rfl, _⟩ := SlR.open hn
  obtain ⟨ea, ec, rfl, _⟩ := SlR.open he
  exact ⟨na, nc, ea, ec, blk_lt h1, by rw [blk_cell h1]; rfl, by rw [blk_cell h1]; rfl, by rw [blk_cell h1]; rfl, hn, he⟩

theorem OwnL.zip {α : Type} {w : World} {E : TypeId} {sz : Nat} {R : α → List Value → Prop} {v : Value} {l : List α} {ob : Option Nat} (R' : Nat → α → List Value → Prop) (h : OwnL w E sz R v l ob) (hR : ∀ (j : Nat) x r, l[j]? = some x → R x r → R' j x r) :
    OwnL w E sz (fun p r => R' p.2 p.1 r) v l.zipIdx ob := by
  obtain ⟨rows, h1, h2, h3⟩ := h
  refine ⟨rows, by simp [h1], fun k x r hk hr => ?_, by simpa using h3⟩
  rw [List.getElem?_zipIdx] at hk
  cases hl : l[k]? with
  | none => rw [hl] at hk; simp at hk
  | some y =>
    rw [hl] at hk
    simp only [Option.map_some, Option.some.injEq, Nat.zero_add] at hk
    subst hk
    exact ⟨hR k y r hl (h2 k y r hl hr).1, (h2 k y r hl hr).2⟩
theorem OwnL.unzip {α : Type} {w : World} {E : TypeId} {sz : Nat} {R : α → List Value → Prop} {v : Value} {l : List α} {ob : Option Nat} {R' : Nat → α → List Value → Prop} (h : OwnL w E sz (fun p r => R' p.2 p.1 r) v l.zipIdx ob) (hR : ∀ (j : Nat) x r, l[j]? = some x → R' j x r → R x r) :
    OwnL w E sz R v l ob := by
  obtain ⟨rows, h1, h2, h3⟩ := h
  refine ⟨rows, by simpa using h1, fun k x r hk hr => ?_, by simpa using h3⟩
  have := h2 k (x, k) r (by rw [List.getElem?_zipIdx, hk]; simp) hr
  exact ⟨hR k x r hk this.1, this.2⟩

set_option maxHeartbeats 400000 in
theorem graphNodeR (S : Nat → Prop) (B : Nat) (G : PGraph) (id : Int) (w : World) (h : GraphRd 68 S w B G) (hs : (G.nodes.map (·.id)).Pairwise (· < ·)) (hb : G.nodes.length ≤ 1099511627776) :
    Calls Tryz.prog 45 #[.pointer (some ⟨B, 0, none⟩), .int .i64 id] w (BsPost (G.nodes.map (·.id)) id w) := by
  obtain ⟨na, nc, ea, ec, hB, c0, c1, c2, hn, -⟩ := h.read
  clear h
  have HN := Lib.hid hn; have HS := Lib.hid hs; have HI := Lib.hid hb; clear hn hs hb
  go_enter Tryz.func45, Tryz.ntmps45
  go_wp2_with fail
  refine (bsNodes S _ G.nodes id _ HN.out HS.out HI.out).mono ?_
  rintro e w2 ⟨i, b, rfl, hb, hg⟩
  have HB := Lib.hid hb; clear hb
  go_wp2
  go_ret2
  exact BsPost.mk i b rfl HB.out hg

set_option maxRecDepth 100000 in
set_option maxHeartbeats 2000000 in
theorem graphNodes (S : Nat → Prop) (B : Nat) (G : PGraph) (w : World) (h : GraphRd 68 S w B G) (hb : G.nodes.length ≤ 1099511627776) (hp : ∀ x ∈ G.nodes, x.props.length ≤ 1099511627776) :
    Calls Tryz.prog 30 #[.pointer (some ⟨B, 0, none⟩)] w fun e w' => ∃ v ob, e = .returned v ∧ OwnL w' 59 3 (RNode (fun b => w.heap.size ≤ b ∧ ob ≠ some b) w') v G.nodes ob ∧ (∀ g, ob = some g → w.heap.size ≤ g) ∧ Grow w w' := by
  obtain ⟨na, nc, ea, ec, hB, c0, c1, c2, hn, -⟩ := h.read
  clear h
  have hn2 : SlR S w 3 (RNode (fun b => S b ∧ b < w.heap.size) w) (.slice na G.nodes.length nc) G.nodes := SlR.sub hn (fun _ h => h) (fun x r _ hR => by obtain ⟨pv, hr, hp⟩ := hR; exact ⟨pv, hr, hp.cut⟩)
  have hn3 : NodesR (fun b => S b ∧ b < w.heap.size) w (.slice na G.nodes.length nc) G.nodes := by
    obtain ⟨a, cap, rows, hv, hl, hc, hr, hR1, h⟩ := hn2
    refine ⟨a, cap, rows, hv, hl, hc, hr, hR1, fun h0 => ?_⟩
    obtain ⟨b, off, ha, hS, hb, hcell⟩ := h h0
    exact ⟨b, off, ha, ⟨hS, hb⟩, hb, hcell⟩
  have HN := Lib.hid hn3; have HBD := Lib.hid hb; have HPL := Lib.hid hp
  clear hn hn2 hn3 hb hp
  go_enter Tryz.func30, Tryz.ntmps30
  go_wp2_with fail
  refine (cloneNode _ _ G.nodes _ HN.out HBD.out).mono ?_
  rintro e w2 ⟨v2, ob, rfl, hown, hg, hob⟩
  have HG2 := Lib.hid hg; have HOB := Lib.hid hob
  have HOL := Lib.hid (show ∀ g, ob = some g → g < w2.heap.size from hown.lt)
  have HZ := Lib.hid (hown.zip (fun j x r => if j < 0 then RNode (fun b => w2.heap.size ≤ b) w2 x r else RNode (fun b => S b ∧ b < w.heap.size) w2 x r) (fun j x r _ h => by rw [if_neg (by omega)]; exact h))
  obtain ⟨oa, cap, hv⟩ : ∃ oa cap, v2 = .slice oa G.nodes.length cap := by obtain ⟨_, _, _, h⟩ := hown; obtain ⟨oa, cap, h, _⟩ := h.isSlice; exact ⟨oa, cap, h⟩
  subst hv
  generalize hll : G.nodes = l at *
  have HLL := Lib.hid hll
  have HPL2 : Hid (∀ x ∈ l, x.props.length ≤ 1099511627776) := HPL
  have HBD2 : Hid (l.length ≤ 1099511627776) := HBD
  have hb62 : l.length ≤ 2 ^ 62 := by have := HBD2.out; omega
  clear hown hg hob HPL HBD HN c0 c1 c2 hll
  go_wp2
  go_loopg [14] l.length (fun gg i wr => ∃ k : Nat, k ≤ l.length ∧ gg = l.length - k ∧ i = .int .i64 k ∧
    OwnL wr 59 3 (fun p r => if p.2 < k then RNode (fun b => w2.heap.size ≤ b) wr p.1 r else RNode (fun b => S b ∧ b < w.heap.size) wr p.1 r) (.slice oa l.length cap) l.zipIdx ob ∧ Mod (fun b => ob = some b) w2 wr)
  case atStart => exact ⟨0, by omega, by omega, rfl, HZ.out, Mod.rfl' _ _⟩
  case round =>
    obtain ⟨k, hk, rfl, rfl, hcur, hmod⟩ := hrel
    have HCUR := Lib.hid hcur; have HMOD := Lib.hid hmod
    by_cases hkl : k < l.length
    · obtain ⟨g, cap', hv, ho⟩ := hcur.sliceAt (i := k) (by simpa using hkl)
      simp only [Value.slice.injEq, List.length_zipIdx, true_and] at hv
      obtain ⟨rfl, rfl⟩ := hv
      subst ho
      have hx : l.zipIdx[k]? = some (l[k], k) := by rw [List.getElem?_zipIdx, List.getElem?_eq_getElem hkl]; simp
      obtain ⟨r, hr, -, hc⟩ := hcur.row hx
      rw [if_neg (by simp)] at hr
      obtain ⟨pv, rfl, hpp⟩ := hr
      have hpl : (l[k]).props.length ≤ 1099511627776 := HPL2.out _ (List.getElem_mem hkl)
      have HX := Lib.hid hx
      have hbw := hcur.lt g rfl
      have a2 : wr.cell? ⟨g, k * 3 + 2, none⟩ = some pv := by have := hc 2 pv rfl; rwa [Nat.zero_add] at this
      have HPP := Lib.hid hpp; have HPLK := Lib.hid hpl
      obtain ⟨pa, pc, rfl⟩ := hpp.isSlice
      clear hc hpp hcur hmod hpl hx
      generalize l[k] = x at *
      go_wp2_with fail
      refine (cloneProp _ _ x.props _ HPP.out HPLK.out).mono ?_
      rintro e w4 ⟨v4, ob4, rfl, hown4, hg4, hob4⟩
      have hk4 := HCUR.out.keep (R' := fun p r => if p.2 < k then RNode (fun b => w2.heap.size ≤ b) w4 p.1 r else RNode (fun b => S b ∧ b < w.heap.size) w4 p.1 r) (w' := w4) (fun g hg => hg4.heapEq (HCUR.out.lt g hg)) (fun p r _ hR => by
        by_cases hq : p.2 < k
        · rw [if_pos hq] at hR ⊢
          exact hR.mod (Mod.of_grow (F := fun _ => False) hg4) (fun _ _ => id)
        · rw [if_neg hq] at hR ⊢
          exact hR.mod (Mod.of_grow (F := fun _ => False) hg4) (fun _ _ => id))
      have hsl := hk4.slot (i := k) (t := 2) (by simpa using hkl) (by omega)
      obtain ⟨⟨u4, q4⟩, f4⟩ := hsl
      obtain ⟨a4, k4, rfl⟩ : ∃ a c, v4 = .slice a x.props.length c := by obtain ⟨_, _, _, h⟩ := hown4; obtain ⟨oa, cap, h, _⟩ := h.isSlice; exact ⟨oa, cap, h⟩
      have HK4 := Lib.hid hk4; have HP4 := Lib.hid (show PropsR (fun b => w2.heap.size ≤ b) w4 _ x.props from (hown4.toSl (S := fun b => w2.heap.size ≤ b) (fun g hg => Nat.le_trans HMOD.out.size (hob4 g hg))))
      have HG4 := Lib.hid hg4
      clear hk4 hown4 hob4 hg4
      go_wp2_with fail
      go_roundg (l.length - (k + 1))
      case measure => omega
      case rel =>
        have hgl := HOL.out g rfl
        have hgo := HOB.out g rfl
        have m5 : Mod (fun b => b = g) w4 (w4.setCell ⟨g, k * 3 + 2, none⟩ (.slice a4 x.props.length k4)) := (Mod.rfl' (fun b => b = g) w4).setd (p := ⟨g, k * 3 + 2, none⟩) (.inl rfl) _
        refine ⟨k + 1, by omega, rfl, by go_num, ?_, (HMOD.out.step (Mod.of_grow HG4.out)).step (m5.mono (fun b e => by rw [e]))⟩
        have hset : l.zipIdx.set k (x, k) = l.zipIdx := by
          have := HX.out
          obtain ⟨h1, h2⟩ := List.getElem?_eq_some_iff.1 this
          rw [← h2, List.set_getElem_self]
        have hN : ∀ b, w2.heap.size ≤ b → ¬ (b = g) := fun b hb e => by omega
        have hSS : ∀ b, (S b ∧ b < w.heap.size) → ¬ (b = g) := fun b hb e => by omega
        have h5 := HK4.out.setOne (R' := fun p r => if p.2 < k + 1 then RNode (fun b => w2.heap.size ≤ b) (w4.setCell ⟨g, k * 3 + 2, none⟩ (.slice a4 x.props.length k4)) p.1 r else RNode (fun b => S b ∧ b < w.heap.size) (w4.setCell ⟨g, k * 3 + 2, none⟩ (.slice a4 x.props.length k4)) p.1 r)
          (t := 2) (x' := (x, k)) (u := .slice a4 x.props.length k4) HX.out (by omega) (fun r hr => by
            rw [if_neg (by simp)] at hr
            rw [if_pos (by simp)]
            obtain ⟨pv, rfl, -⟩ := hr
            exact ⟨_, rfl, HP4.out.mod m5 hN⟩) (fun j y r hjk hj hr => by
            rw [List.getElem?_zipIdx] at hj
            have hy : y.2 = j := by
              cases hl : l[j]? with
              | none => rw [hl] at hj; simp at hj
              | some z => rw [hl] at hj; simp only [Option.map_some, Option.some.injEq, Nat.zero_add] at hj; rw [← hj]
            rw [hy] at hr ⊢
            by_cases hjk2 : j < k
            · rw [if_pos hjk2] at hr
              rw [if_pos (by omega)]
              exact hr.mod m5 hN
            · rw [if_neg hjk2] at hr
              rw [if_neg (by omega)]
              exact hr.mod m5 hSS)
        rw [hset] at h5
        exact h5
    · have hkn : k = l.length := by omega
      subst hkn
      go_wp2
      go_ret
      refine ⟨.slice oa l.length cap, ob, rfl, ?_, HOB.out, HG2.out.modd HMOD.out (fun b hb => HOB.out b hb)⟩
      rw [HLL.out]
      refine HCUR.out.unzip (R' := fun j x r => if j < l.length then RNode (fun b => w2.heap.size ≤ b) wr x r else RNode (fun b => S b ∧ b < w.heap.size) wr x r) (fun j x r hj hR => ?_)
      rw [if_pos (List.getElem?_eq_some_iff.1 hj).1] at hR
      exact hR.sub (fun b hb => ⟨Nat.le_trans HG2.out.size hb, fun e => by have := HOL.out b e; omega⟩)

set_option maxHeartbeats 400000 in
theorem graphEdgeR (S : Nat → Prop) (B : Nat) (G : PGraph) (id : Int) (w : World) (h : GraphRd 68 S w B G) (hs : (G.edges.map (·.id)).Pairwise (· < ·)) (hb : G.edges.length ≤ 1099511627776) :
    Calls Tryz.prog 66 #[.pointer (some ⟨B, 0, none⟩), .int .i64 id] w (BsPost (G.edges.map (·.id)) id w) := by
  obtain ⟨na, nc, ea, ec, hB, c0, c1, c2, -, hn⟩ := h.read
  clear h
  have HN := Lib.hid hn; have HS := Lib.hid hs; have HI := Lib.hid hb; clear hn hs hb
  go_enter Tryz.func66, Tryz.ntmps66
  go_wp2_with fail
  refine (bsEdges S _ G.edges id _ HN.out HS.out HI.out).mono ?_
  rintro e w2 ⟨i, b, rfl, hb, hg⟩
  have HB := Lib.hid hb; clear hb
  go_wp2
  go_ret2
  exact BsPost.mk i b rfl HB.out hg

set_option maxRecDepth 100000 in
set_option maxHeartbeats 2000000 in
theorem graphEdges (S : Nat → Prop) (B : Nat) (G : PGraph) (w : World) (h : GraphRd 68 S w B G) (hb : G.edges.length ≤ 1099511627776) (hp : ∀ x ∈ G.edges, x.props.length ≤ 1099511627776) :
    Calls Tryz.prog 32 #[.pointer (some ⟨B, 0, none⟩)] w fun e w' => ∃ v ob, e = .returned v ∧ OwnL w' 79 5 (REdge (fun b => w.heap.size ≤ b ∧ ob ≠ some b) w') v G.edges ob ∧ (∀ g, ob = some g → w.heap.size ≤ g) ∧ Grow w w' := by
  obtain ⟨na, nc, ea, ec, hB, c0, c1, c2, -, hn⟩ := h.read
  clear h
  have hn2 : SlR S w 5 (REdge (fun b => S b ∧ b < w.heap.size) w) (.slice ea G.edges.length ec) G.edges := SlR.sub hn (fun _ h => h) (fun x r _ hR => by obtain ⟨pv, hr, hp⟩ := hR; exact ⟨pv, hr, hp.cut⟩)
  have hn3 : EdgesR (fun b => S b ∧ b < w.heap.size) w (.slice ea G.edges.length ec) G.edges := by
    obtain ⟨a, cap, rows, hv, hl, hc, hr, hR1, h⟩ := hn2
    refine ⟨a, cap, rows, hv, hl, hc, hr, hR1, fun h0 => ?_⟩
    obtain ⟨b, off, ha, hS, hb, hcell⟩ := h h0
    exact ⟨b, off, ha, ⟨hS, hb⟩, hb, hcell⟩
  have HN := Lib.hid hn3; have HBD := Lib.hid hb; have HPL := Lib.hid hp
  clear hn hn2 hn3 hb hp
  go_enter Tryz.func32, Tryz.ntmps32
  go_wp2_with fail
  refine (cloneEdge _ _ G.edges _ HN.out HBD.out).mono ?_
  rintro e w2 ⟨v2, ob, rfl, hown, hg, hob⟩
  have HG2 := Lib.hid hg; have HOB := Lib.hid hob
  have HOL := Lib.hid (show ∀ g, ob = some g → g < w2.heap.size from hown.lt)
  have HZ := Lib.hid (hown.zip (fun j x r => if j < 0 then REdge (fun b => w2.heap.size ≤ b) w2 x r else REdge (fun b => S b ∧ b < w.heap.size) w2 x r) (fun j x r _ h => by rw [if_neg (by omega)]; exact h))
  obtain ⟨oa, cap, hv⟩ : ∃ oa cap, v2 = .slice oa G.edges.length cap := by obtain ⟨_, _, _, h⟩ := hown; obtain ⟨oa, cap, h, _⟩ := h.isSlice; exact ⟨oa, cap, h⟩
  subst hv
  generalize hll : G.edges = l at *
  have HLL := Lib.hid hll
  have HPL2 : Hid (∀ x ∈ l, x.props.length ≤ 1099511627776) := HPL
  have HBD2 : Hid (l.length ≤ 1099511627776) := HBD
  have hb62 : l.length ≤ 2 ^ 62 := by have := HBD2.out; omega
  clear hown hg hob HPL HBD HN c0 c1 c2 hll
  go_wp2
  go_loopg [14] l.length (fun gg i wr => ∃ k : Nat, k ≤ l.length ∧ gg = l.length - k ∧ i = .int .i64 k ∧
    OwnL wr 79 5 (fun p r => if p.2 < k then REdge (fun b => w2.heap.size ≤ b) wr p.1 r else REdge (fun b => S b ∧ b < w.heap.size) wr p.1 r) (.slice oa l.length cap) l.zipIdx ob ∧ Mod (fun b => ob = some b) w2 wr)
  case atStart => exact ⟨0, by omega, by omega, rfl, HZ.out, Mod.rfl' _ _⟩
  case round =>
    obtain ⟨k, hk, rfl, rfl, hcur, hmod⟩ := hrel
    have HCUR := Lib.hid hcur; have HMOD := Lib.hid hmod
    by_cases hkl : k < l.length
    · obtain ⟨g, cap', hv, ho⟩ := hcur.sliceAt (i := k) (by simpa using hkl)
      simp only [Value.slice.injEq, List.length_zipIdx, true_and] at hv
      obtain ⟨rfl, rfl⟩ := hv
      subst ho
      have hx : l.zipIdx[k]? = some (l[k], k) := by rw [List.getElem?_zipIdx, List.getElem?_eq_getElem hkl]; simp
      obtain ⟨r, hr, -, hc⟩ := hcur.row hx
      rw [if_neg (by simp)] at hr
      obtain ⟨pv, rfl, hpp⟩ := hr
      have hpl : (l[k]).props.length ≤ 1099511627776 := HPL2.out _ (List.getElem_mem hkl)
      have HX := Lib.hid hx
      have hbw := hcur.lt g rfl
      have a2 : wr.cell? ⟨g, k * 5 + 4, none⟩ = some pv := by have := hc 4 pv rfl; rwa [Nat.zero_add] at this
      have HPP := Lib.hid hpp; have HPLK := Lib.hid hpl
      obtain ⟨pa, pc, rfl⟩ := hpp.isSlice
      clear hc hpp hcur hmod hpl hx
      generalize l[k] = x at *
      go_wp2_with fail
      refine (cloneProp _ _ x.props _ HPP.out HPLK.out).mono ?_
      rintro e w4 ⟨v4, ob4, rfl, hown4, hg4, hob4⟩
      have hk4 := HCUR.out.keep (R' := fun p r => if p.2 < k then REdge (fun b => w2.heap.size ≤ b) w4 p.1 r else REdge (fun b => S b ∧ b < w.heap.size) w4 p.1 r) (w' := w4) (fun g hg => hg4.heapEq (HCUR.out.lt g hg)) (fun p r _ hR => by
        by_cases hq : p.2 < k
        · rw [if_pos hq] at hR ⊢
          exact hR.mod (Mod.of_grow (F := fun _ => False) hg4) (fun _ _ => id)
        · rw [if_neg hq] at hR ⊢
          exact hR.mod (Mod.of_grow (F := fun _ => False) hg4) (fun _ _ => id))
      have hsl := hk4.slot (i := k) (t := 4) (by simpa using hkl) (by omega)
      obtain ⟨⟨u4, q4⟩, f4⟩ := hsl
      obtain ⟨a4, k4, rfl⟩ : ∃ a c, v4 = .slice a x.props.length c := by obtain ⟨_, _, _, h⟩ := hown4; obtain ⟨oa, cap, h, _⟩ := h.isSlice; exact ⟨oa, cap, h⟩
      have HK4 := Lib.hid hk4; have HP4 := Lib.hid (show PropsR (fun b => w2.heap.size ≤ b) w4 _ x.props from (hown4.toSl (S := fun b => w2.heap.size ≤ b) (fun g hg => Nat.le_trans HMOD.out.size (hob4 g hg))))
      have HG4 := Lib.hid hg4
      clear hk4 hown4 hob4 hg4
      go_wp2_with fail
      go_roundg (l.length - (k + 1))
      case measure => omega
      case rel =>
        have hgl := HOL.out g rfl
        have hgo := HOB.out g rfl
        have m5 : Mod (fun b => b = g) w4 (w4.setCell ⟨g, k * 5 + 4, none⟩ (.slice a4 x.props.length k4)) := (Mod.rfl' (fun b => b = g) w4).setd (p := ⟨g, k * 5 + 4, none⟩) (.inl rfl) _
        refine ⟨k + 1, by omega, rfl, by go_num, ?_, (HMOD.out.step (Mod.of_grow HG4.out)).step (m5.mono (fun b e => by rw [e]))⟩
        have hset : l.zipIdx.set k (x, k) = l.zipIdx := by
          have := HX.out
          obtain ⟨h1, h2⟩ := List.getElem?_eq_some_iff.1 this
          rw [← h2, List.set_getElem_self]
        have hN : ∀ b, w2.heap.size ≤ b → ¬ (b = g) := fun b hb e => by omega
        have hSS : ∀ b, (S b ∧ b < w.heap.size) → ¬ (b = g) := fun b hb e => by omega
        have h5 := HK4.out.setOne (R' := fun p r => if p.2 < k + 1 then REdge (fun b => w2.heap.size ≤ b) (w4.setCell ⟨g, k * 5 + 4, none⟩ (.slice a4 x.props.length k4)) p.1 r else REdge (fun b => S b ∧ b < w.heap.size) (w4.setCell ⟨g, k * 5 + 4, none⟩ (.slice a4 x.props.length k4)) p.1 r)
          (t := 4) (x' := (x, k)) (u := .slice a4 x.props.length k4) HX.out (by omega) (fun r hr => by
            rw [if_neg (by simp)] at hr
            rw [if_pos (by simp)]
            obtain ⟨pv, rfl, -⟩ := hr
            exact ⟨_, rfl, HP4.out.mod m5 hN⟩) (fun j y r hjk hj hr => by
            rw [List.getElem?_zipIdx] at hj
            have hy : y.2 = j := by
              cases hl : l[j]? with
              | none => rw [hl] at hj; simp at hj
              | some z => rw [hl] at hj; simp only [Option.map_some, Option.some.injEq, Nat.zero_add] at hj; rw [← hj]
            rw [hy] at hr ⊢
            by_cases hjk2 : j < k
            · rw [if_pos hjk2] at hr
              rw [if_pos (by omega)]
              exact hr.mod m5 hN
            · rw [if_neg hjk2] at hr
              rw [if_neg (by omega)]
              exact hr.mod m5 hSS)
        rw [hset] at h5
        exact h5
    · have hkn : k = l.length := by omega
      subst hkn
      go_wp2
      go_ret
      refine ⟨.slice oa l.length cap, ob, rfl, ?_, HOB.out, HG2.out.modd HMOD.out (fun b hb => HOB.out b hb)⟩
      rw [HLL.out]
      refine HCUR.out.unzip (R' := fun j x r => if j < l.length then REdge (fun b => w2.heap.size ≤ b) wr x r else REdge (fun b => S b ∧ b < w.heap.size) wr x r) (fun j x r hj hR => ?_)
      rw [if_pos (List.getElem?_eq_some_iff.1 hj).1] at hR
      exact hR.sub (fun b hb => ⟨Nat.le_trans HG2.out.size hb, fun e => by have := HOL.out b e; omega⟩)
end Go.Hg
