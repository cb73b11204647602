/- Nodes, Edges: copies whose properties' rows are one's own (printed by genreado.py); rows that are overwritten: what stays so that a walk may go on. Condition: at most 2^40 of each. -/
import Derived.Test.YtcokiflkjnekeaaRead
namespace Go.Hg
open Go.RowKit Go.Proofs

def RNodeO (S : Nat → Prop) (w : World) (n : PNode) (r : List Value) : Prop := ∃ pv ob, r = [.int .i64 n.id, .string n.typ, pv] ∧ OwnL w 54 4 RProp pv n.props ob ∧ ∀ g, ob = some g → S g
theorem RNodeO.mod {F S : Nat → Prop} {w w' : World} {x : PNode} {r : List Value} (h : RNodeO S w x r) (g : Mod F w w') (hd : ∀ b, S b → ¬ F b) : RNodeO S w' x r := by
  obtain ⟨pv, ob, hr, ho, hs⟩ := h
  exact ⟨pv, ob, hr, ho.keep (fun k hk => g.block k (ho.lt k hk) (hd k (hs k hk))) (fun _ _ _ h => h), hs⟩
theorem RNodeO.sub {S S' : Nat → Prop} {w : World} {x : PNode} {r : List Value} (h : RNodeO S w x r) (hS : ∀ b, S b → S' b) : RNodeO S' w x r := by
  obtain ⟨pv, ob, hr, ho, hs⟩ := h
  exact ⟨pv, ob, hr, ho, fun g hg => hS g (hs g hg)⟩
theorem RNodeO.toR {S : Nat → Prop} {w : World} {x : PNode} {r : List Value} (h : RNodeO S w x r) : RNode S w x r := by
  obtain ⟨pv, ob, hr, ho, hs⟩ := h
  exact ⟨pv, hr, ho.toSl hs⟩
def REdgeO (S : Nat → Prop) (w : World) (n : PEdge) (r : List Value) : Prop := ∃ pv ob, r = [.int .i64 n.id, .string n.typ, .int .i64 n.from_, .int .i64 n.to_, pv] ∧ OwnL w 54 4 RProp pv n.props ob ∧ ∀ g, ob = some g → S g
theorem REdgeO.mod {F S : Nat → Prop} {w w' : World} {x : PEdge} {r : List Value} (h : REdgeO S w x r) (g : Mod F w w') (hd : ∀ b, S b → ¬ F b) : REdgeO S w' x r := by
  obtain ⟨pv, ob, hr, ho, hs⟩ := h
  exact ⟨pv, ob, hr, ho.keep (fun k hk => g.block k (ho.lt k hk) (hd k (hs k hk))) (fun _ _ _ h => h), hs⟩
theorem REdgeO.sub {S S' : Nat → Prop} {w : World} {x : PEdge} {r : List Value} (h : REdgeO S w x r) (hS : ∀ b, S b → S' b) : REdgeO S' w x r := by
  obtain ⟨pv, ob, hr, ho, hs⟩ := h
  exact ⟨pv, ob, hr, ho, fun g hg => hS g (hs g hg)⟩
theorem REdgeO.toR {S : Nat → Prop} {w : World} {x : PEdge} {r : List Value} (h : REdgeO S w x r) : REdge S w x r := by
  obtain ⟨pv, ob, hr, ho, hs⟩ := h
  exact ⟨pv, hr, ho.toSl hs⟩
set_option maxRecDepth 100000 in
set_option maxHeartbeats 2000000 in
theorem graphNodesO (S : Nat → Prop) (B : Nat) (G : PGraph) (w : World) (h : GraphRd 81 S w B G) (hb : G.nodes.length ≤ 1099511627776) (hp : ∀ x ∈ G.nodes, x.props.length ≤ 1099511627776) :
    Calls Try.prog 15 #[.pointer (some ⟨B, 0, none⟩)] w fun e w' => ∃ v ob, e = .returned v ∧ OwnL w' 52 3 (RNodeO (fun b => w.heap.size ≤ b ∧ ob ≠ some b) w') v G.nodes ob ∧ (∀ g, ob = some g → w.heap.size ≤ g) ∧ Grow w w' := by
  obtain ⟨na, nc, ea, ec, hB, c0, c1, c2, hn, -⟩ := h.read
  clear h
  have hn2 : SlR S w 3 (RNode (fun b => S b ∧ b < w.heap.size) w) (.slice na G.nodes.length nc) G.nodes := SlR.sub hn (fun _ h => h) (fun x r _ hR => by obtain ⟨pv, hr, hp⟩ := hR; exact ⟨pv, hr, hp.cut⟩)
  have hn3 : NodesR (fun b => S b ∧ b < w.heap.size) w (.slice na G.nodes.length nc) G.nodes := by
    obtain ⟨a, cap, rows, hv, hl, hc, hr, hR1, h⟩ := hn2
    refine ⟨a, cap, rows, hv, hl, hc, hr, hR1, fun h0 => ?_⟩
    obtain ⟨b, off, ha, hS, hb, hcell⟩ := h h0
    exact ⟨b, off, ha, ⟨hS, hb⟩, hb, hcell⟩
  have HN := Lib.hid hn3; have HBD := Lib.hid hb; have HPL := Lib.hid hp
  clear hn hn2 hn3 hb hp
  go_enter Try.func15, Try.ntmps15
  go_wp2_with fail
  refine (cloneNode _ _ G.nodes _ HN.out HBD.out).mono ?_
  rintro e w2 ⟨v2, ob, rfl, hown, hg, hob⟩
  have HG2 := Lib.hid hg; have HOB := Lib.hid hob
  have HOL := Lib.hid (show ∀ g, ob = some g → g < w2.heap.size from hown.lt)
  have HZ := Lib.hid (hown.zip (fun j x r => if j < 0 then RNodeO (fun b => w2.heap.size ≤ b) w2 x r else RNode (fun b => S b ∧ b < w.heap.size) w2 x r) (fun j x r _ h => by rw [if_neg (by omega)]; exact h))
  obtain ⟨oa, cap, hv⟩ : ∃ oa cap, v2 = .slice oa G.nodes.length cap := by obtain ⟨_, _, _, h⟩ := hown; obtain ⟨oa, cap, h, _⟩ := h.isSlice; exact ⟨oa, cap, h⟩
  subst hv
  generalize hll : G.nodes = l at *
  have HLL := Lib.hid hll
  have HPL2 : Hid (∀ x ∈ l, x.props.length ≤ 1099511627776) := HPL
  have HBD2 : Hid (l.length ≤ 1099511627776) := HBD
  have hb62 : l.length ≤ 2 ^ 62 := by have := HBD2.out; omega
  clear hown hg hob HPL HBD HN c0 c1 c2 hll
  go_wp2
  go_loopg [14] l.length (fun gg i wr => ∃ k : Nat, k ≤ l.length ∧ gg = l.length - k ∧ i = .int .i64 k ∧
    OwnL wr 52 3 (fun p r => if p.2 < k then RNodeO (fun b => w2.heap.size ≤ b) wr p.1 r else RNode (fun b => S b ∧ b < w.heap.size) wr p.1 r) (.slice oa l.length cap) l.zipIdx ob ∧ Mod (fun b => ob = some b) w2 wr)
  case atStart => exact ⟨0, by omega, by omega, rfl, HZ.out, Mod.rfl' _ _⟩
  case round =>
    obtain ⟨k, hk, rfl, rfl, hcur, hmod⟩ := hrel
    have HCUR := Lib.hid hcur; have HMOD := Lib.hid hmod
    by_cases hkl : k < l.length
    · obtain ⟨g, cap', hv, ho⟩ := hcur.sliceAt (i := k) (by simpa using hkl)
      simp only [Value.slice.injEq, List.length_zipIdx, true_and] at hv
      obtain ⟨rfl, rfl⟩ := hv
      subst ho
      have hx : l.zipIdx[k]? = some (l[k], k) := by rw [List.getElem?_zipIdx, List.getElem?_eq_getElem hkl]; simp
      obtain ⟨r, hr, -, hc⟩ := hcur.row hx
      rw [if_neg (by simp)] at hr
      obtain ⟨pv, rfl, hpp⟩ := hr
      have hpl : (l[k]).props.length ≤ 1099511627776 := HPL2.out _ (List.getElem_mem hkl)
      have HX := Lib.hid hx
      have hbw := hcur.lt g rfl
      have a2 : wr.cell? ⟨g, k * 3 + 2, none⟩ = some pv := by have := hc 2 pv rfl; rwa [Nat.zero_add] at this
      have HPP := Lib.hid hpp; have HPLK := Lib.hid hpl
      obtain ⟨pa, pc, rfl⟩ := hpp.isSlice
      clear hc hpp hcur hmod hpl hx
      generalize l[k] = x at *
      go_wp2_with fail
      refine (cloneProp _ _ x.props _ HPP.out HPLK.out).mono ?_
      rintro e w4 ⟨v4, ob4, rfl, hown4, hg4, hob4⟩
      have hk4 := HCUR.out.keep (R' := fun p r => if p.2 < k then RNodeO (fun b => w2.heap.size ≤ b) w4 p.1 r else RNode (fun b => S b ∧ b < w.heap.size) w4 p.1 r) (w' := w4) (fun g hg => hg4.heapEq (HCUR.out.lt g hg)) (fun p r _ hR => by
        by_cases hq : p.2 < k
        · rw [if_pos hq] at hR ⊢
          exact hR.mod (Mod.of_grow (F := fun _ => False) hg4) (fun _ _ => id)
        · rw [if_neg hq] at hR ⊢
          exact hR.mod (Mod.of_grow (F := fun _ => False) hg4) (fun _ _ => id))
      have hsl := hk4.slot (i := k) (t := 2) (by simpa using hkl) (by omega)
      obtain ⟨⟨u4, q4⟩, f4⟩ := hsl
      obtain ⟨a4, k4, rfl⟩ : ∃ a c, v4 = .slice a x.props.length c := by obtain ⟨_, _, _, h⟩ := hown4; obtain ⟨oa, cap, h, _⟩ := h.isSlice; exact ⟨oa, cap, h⟩
      have HK4 := Lib.hid hk4; have HO4 := Lib.hid hown4; have HB4 := Lib.hid (show ∀ g, ob4 = some g → w2.heap.size ≤ g from fun g hg => Nat.le_trans HMOD.out.size (hob4 g hg))
      have HG4 := Lib.hid hg4
      clear hk4 hown4 hob4 hg4
      go_wp2_with fail
      go_roundg (l.length - (k + 1))
      case measure => omega
      case rel =>
        have hgl := HOL.out g rfl
        have hgo := HOB.out g rfl
        have m5 : Mod (fun b => b = g) w4 (w4.setCell ⟨g, k * 3 + 2, none⟩ (.slice a4 x.props.length k4)) := (Mod.rfl' (fun b => b = g) w4).setd (p := ⟨g, k * 3 + 2, none⟩) (.inl rfl) _
        refine ⟨k + 1, by omega, rfl, by go_num, ?_, (HMOD.out.step (Mod.of_grow HG4.out)).step (m5.mono (fun b e => by rw [e]))⟩
        have hset : l.zipIdx.set k (x, k) = l.zipIdx := by
          have := HX.out
          obtain ⟨h1, h2⟩ := List.getElem?_eq_some_iff.1 this
          rw [← h2, List.set_getElem_self]
        have hN : ∀ b, w2.heap.size ≤ b → ¬ (b = g) := fun b hb e => by omega
        have hSS : ∀ b, (S b ∧ b < w.heap.size) → ¬ (b = g) := fun b hb e => by omega
        have h5 := HK4.out.setOne (R' := fun p r => if p.2 < k + 1 then RNodeO (fun b => w2.heap.size ≤ b) (w4.setCell ⟨g, k * 3 + 2, none⟩ (.slice a4 x.props.length k4)) p.1 r else RNode (fun b => S b ∧ b < w.heap.size) (w4.setCell ⟨g, k * 3 + 2, none⟩ (.slice a4 x.props.length k4)) p.1 r)
          (t := 2) (x' := (x, k)) (u := .slice a4 x.props.length k4) HX.out (by omega) (fun r hr => by
            rw [if_neg (by simp)] at hr
            rw [if_pos (by simp)]
            obtain ⟨pv, rfl, -⟩ := hr
            exact ⟨_, ob4, rfl, HO4.out.keep (fun g' hg' => m5.block g' (HO4.out.lt g' hg') (hN _ (HB4.out g' hg'))) (fun _ _ _ h => h), HB4.out⟩) (fun j y r hjk hj hr => by
            rw [List.getElem?_zipIdx] at hj
            have hy : y.2 = j := by
              cases hl : l[j]? with
              | none => rw [hl] at hj; simp at hj
              | some z => rw [hl] at hj; simp only [Option.map_some, Option.some.injEq, Nat.zero_add] at hj; rw [← hj]
            rw [hy] at hr ⊢
            by_cases hjk2 : j < k
            · rw [if_pos hjk2] at hr
              rw [if_pos (by omega)]
              exact hr.mod m5 hN
            · rw [if_neg hjk2] at hr
              rw [if_neg (by omega)]
              exact hr.mod m5 hSS)
        rw [hset] at h5
        exact h5
    · have hkn : k = l.length := by omega
      subst hkn
      go_wp2
      go_ret
      refine ⟨.slice oa l.length cap, ob, rfl, ?_, HOB.out, HG2.out.modd HMOD.out (fun b hb => HOB.out b hb)⟩
      rw [HLL.out]
      refine HCUR.out.unzip (R' := fun j x r => if j < l.length then RNodeO (fun b => w2.heap.size ≤ b) wr x r else RNode (fun b => S b ∧ b < w.heap.size) wr x r) (fun j x r hj hR => ?_)
      rw [if_pos (List.getElem?_eq_some_iff.1 hj).1] at hR
      exact hR.sub (fun b hb => ⟨Nat.le_trans HG2.out.size hb, fun e => by have := HOL.out b e; omega⟩)
set_option maxRecDepth 100000 in
set_option maxHeartbeats 2000000 in
theorem graphEdgesO (S : Nat → Prop) (B : Nat) (G : PGraph) (w : World) (h : GraphRd 81 S w B G) (hb : G.edges.length ≤ 1099511627776) (hp : ∀ x ∈ G.edges, x.props.length ≤ 1099511627776) :
    Calls Try.prog 16 #[.pointer (some ⟨B, 0, none⟩)] w fun e w' => ∃ v ob, e = .returned v ∧ OwnL w' 56 5 (REdgeO (fun b => w.heap.size ≤ b ∧ ob ≠ some b) w') v G.edges ob ∧ (∀ g, ob = some g → w.heap.size ≤ g) ∧ Grow w w' := by
  obtain ⟨na, nc, ea, ec, hB, c0, c1, c2, -, hn⟩ := h.read
  clear h
  have hn2 : SlR S w 5 (REdge (fun b => S b ∧ b < w.heap.size) w) (.slice ea G.edges.length ec) G.edges := SlR.sub hn (fun _ h => h) (fun x r _ hR => by obtain ⟨pv, hr, hp⟩ := hR; exact ⟨pv, hr, hp.cut⟩)
  have hn3 : EdgesR (fun b => S b ∧ b < w.heap.size) w (.slice ea G.edges.length ec) G.edges := by
    obtain ⟨a, cap, rows, hv, hl, hc, hr, hR1, h⟩ := hn2
    refine ⟨a, cap, rows, hv, hl, hc, hr, hR1, fun h0 => ?_⟩
    obtain ⟨b, off, ha, hS, hb, hcell⟩ := h h0
    exact ⟨b, off, ha, ⟨hS, hb⟩, hb, hcell⟩
  have HN := Lib.hid hn3; have HBD := Lib.hid hb; have HPL := Lib.hid hp
  clear hn hn2 hn3 hb hp
  go_enter Try.func16, Try.ntmps16
  go_wp2_with fail
  refine (cloneEdge _ _ G.edges _ HN.out HBD.out).mono ?_
  rintro e w2 ⟨v2, ob, rfl, hown, hg, hob⟩
  have HG2 := Lib.hid hg; have HOB := Lib.hid hob
  have HOL := Lib.hid (show ∀ g, ob = some g → g < w2.heap.size from hown.lt)
  have HZ := Lib.hid (hown.zip (fun j x r => if j < 0 then REdgeO (fun b => w2.heap.size ≤ b) w2 x r else REdge (fun b => S b ∧ b < w.heap.size) w2 x r) (fun j x r _ h => by rw [if_neg (by omega)]; exact h))
  obtain ⟨oa, cap, hv⟩ : ∃ oa cap, v2 = .slice oa G.edges.length cap := by obtain ⟨_, _, _, h⟩ := hown; obtain ⟨oa, cap, h, _⟩ := h.isSlice; exact ⟨oa, cap, h⟩
  subst hv
  generalize hll : G.edges = l at *
  have HLL := Lib.hid hll
  have HPL2 : Hid (∀ x ∈ l, x.props.length ≤ 1099511627776) := HPL
  have HBD2 : Hid (l.length ≤ 1099511627776) := HBD
  have hb62 : l.length ≤ 2 ^ 62 := by have := HBD2.out; omega
  clear hown hg hob HPL HBD HN c0 c1 c2 hll
  go_wp2
  go_loopg [14] l.length (fun gg i wr => ∃ k : Nat, k ≤ l.length ∧ gg = l.length - k ∧ i = .int .i64 k ∧
    OwnL wr 56 5 (fun p r => if p.2 < k then REdgeO (fun b => w2.heap.size ≤ b) wr p.1 r else REdge (fun b => S b ∧ b < w.heap.size) wr p.1 r) (.slice oa l.length cap) l.zipIdx ob ∧ Mod (fun b => ob = some b) w2 wr)
  case atStart => exact ⟨0, by omega, by omega, rfl, HZ.out, Mod.rfl' _ _⟩
  case round =>
    obtain ⟨k, hk, rfl, rfl, hcur, hmod⟩ := hrel
    have HCUR := Lib.hid hcur; have HMOD := Lib.hid hmod
    by_cases hkl : k < l.length
    · obtain ⟨g, cap', hv, ho⟩ := hcur.sliceAt (i := k) (by simpa using hkl)
      simp only [Value.slice.injEq, List.length_zipIdx, true_and] at hv
      obtain ⟨rfl, rfl⟩ := hv
      subst ho
      have hx : l.zipIdx[k]? = some (l[k], k) := by rw [List.getElem?_zipIdx, List.getElem?_eq_getElem hkl]; simp
      obtain ⟨r, hr, -, hc⟩ := hcur.row hx
      rw [if_neg (by simp)] at hr
      obtain ⟨pv, rfl, hpp⟩ := hr
      have hpl : (l[k]).props.length ≤ 1099511627776 := HPL2.out _ (List.getElem_mem hkl)
      have HX := Lib.hid hx
      have hbw := hcur.lt g rfl
      have a2 : wr.cell? ⟨g, k * 5 + 4, none⟩ = some pv := by have := hc 4 pv rfl; rwa [Nat.zero_add] at this
      have HPP := Lib.hid hpp; have HPLK := Lib.hid hpl
      obtain ⟨pa, pc, rfl⟩ := hpp.isSlice
      clear hc hpp hcur hmod hpl hx
      generalize l[k] = x at *
      go_wp2_with fail
      refine (cloneProp _ _ x.props _ HPP.out HPLK.out).mono ?_
      rintro e w4 ⟨v4, ob4, rfl, hown4, hg4, hob4⟩
      have hk4 := HCUR.out.keep (R' := fun p r => if p.2 < k then REdgeO (fun b => w2.heap.size ≤ b) w4 p.1 r else REdge (fun b => S b ∧ b < w.heap.size) w4 p.1 r) (w' := w4) (fun g hg => hg4.heapEq (HCUR.out.lt g hg)) (fun p r _ hR => by
        by_cases hq : p.2 < k
        · rw [if_pos hq] at hR ⊢
          exact hR.mod (Mod.of_grow (F := fun _ => False) hg4) (fun _ _ => id)
        · rw [if_neg hq] at hR ⊢
          exact hR.mod (Mod.of_grow (F := fun _ => False) hg4) (fun _ _ => id))
      have hsl := hk4.slot (i := k) (t := 4) (by simpa using hkl) (by omega)
      obtain ⟨⟨u4, q4⟩, f4⟩ := hsl
      obtain ⟨a4, k4, rfl⟩ : ∃ a c, v4 = .slice a x.props.length c := by obtain ⟨_, _, _, h⟩ := hown4; obtain ⟨oa, cap, h, _⟩ := h.isSlice; exact ⟨oa, cap, h⟩
      have HK4 := Lib.hid hk4; have HO4 := Lib.hid hown4; have HB4 := Lib.hid (show ∀ g, ob4 = some g → w2.heap.size ≤ g from fun g hg => Nat.le_trans HMOD.out.size (hob4 g hg))
      have HG4 := Lib.hid hg4
      clear hk4 hown4 hob4 hg4
      go_wp2_with fail
      go_roundg (l.length - (k + 1))
      case measure => omega
      case rel =>
        have hgl := HOL.out g rfl
        have hgo := HOB.out g rfl
        have m5 : Mod (fun b => b = g) w4 (w4.setCell ⟨g, k * 5 + 4, none⟩ (.slice a4 x.props.length k4)) := (Mod.rfl' (fun b => b = g) w4).setd (p := ⟨g, k * 5 + 4, none⟩) (.inl rfl) _
        refine ⟨k + 1, by omega, rfl, by go_num, ?_, (HMOD.out.step (Mod.of_grow HG4.out)).step (m5.mono (fun b e => by rw [e]))⟩
        have hset : l.zipIdx.set k (x, k) = l.zipIdx := by
          have := HX.out
          obtain ⟨h1, h2⟩ := List.getElem?_eq_some_iff.1 this
          rw [← h2, List.set_getElem_self]
        have hN : ∀ b, w2.heap.size ≤ b → ¬ (b = g) := fun b hb e => by omega
        have hSS : ∀ b, (S b ∧ b < w.heap.size) → ¬ (b = g) := fun b hb e => by omega
        have h5 := HK4.out.setOne (R' := fun p r => if p.2 < k + 1 then REdgeO (fun b => w2.heap.size ≤ b) (w4.setCell ⟨g, k * 5 + 4, none⟩ (.slice a4 x.props.length k4)) p.1 r else REdge (fun b => S b ∧ b < w.heap.size) (w4.setCell ⟨g, k * 5 + 4, none⟩ (.slice a4 x.props.length k4)) p.1 r)
          (t := 4) (x' := (x, k)) (u := .slice a4 x.props.length k4) HX.out (by omega) (fun r hr => by
            rw [if_neg (by simp)] at hr
            rw [if_pos (by simp)]
            obtain ⟨pv, rfl, -⟩ := hr
            exact ⟨_, ob4, rfl, HO4.out.keep (fun g' hg' => m5.block g' (HO4.out.lt g' hg') (hN _ (HB4.out g' hg'))) (fun _ _ _ h => h), HB4.out⟩) (fun j y r hjk hj hr => by
            rw [List.getElem?_zipIdx] at hj
            have hy : y.2 = j := by
              cases hl : l[j]? with
              | none => rw [hl] at hj; simp at hj
              | some z => rw [hl] at hj; simp only [Option.map_some, Option.some.injEq, Nat.zero_add] at hj; rw [← hj]
            rw [hy] at hr ⊢
            by_cases hjk2 : j < k
            · rw [if_pos hjk2] at hr
              rw [if_pos (by omega)]
              exact hr.mod m5 hN
            · rw [if_neg hjk2] at hr
              rw [if_neg (by omega)]
              exact hr.mod m5 hSS)
        rw [hset] at h5
        exact h5
    · have hkn : k = l.length := by omega
      subst hkn
      go_wp2
      go_ret
      refine ⟨.slice oa l.length cap, ob, rfl, ?_, HOB.out, HG2.out.modd HMOD.out (fun b hb => HOB.out b hb)⟩
      rw [HLL.out]
      refine HCUR.out.unzip (R' := fun j x r => if j < l.length then REdgeO (fun b => w2.heap.size ≤ b) wr x r else REdge (fun b => S b ∧ b < w.heap.size) wr x r) (fun j x r hj hR => ?_)
      rw [if_pos (List.getElem?_eq_some_iff.1 hj).1] at hR
      exact hR.sub (fun b hb => ⟨Nat.le_trans HG2.out.size hb, fun e => by have := HOL.out b e; omega⟩)

/-- a block of at least n cells that may be written -/
def Shape (w : World) (b n : Nat) : Prop := ∃ (cs : Array Value) (E : TypeId), w.heap[b]? = some (.cells cs E (0, 0)) ∧ n ≤ cs.size
theorem Shape.lt {w : World} {b n : Nat} (h : Shape w b n) : b < w.heap.size := by obtain ⟨_, _, h, _⟩ := h; exact blk_lt h
theorem Shape.cell {w : World} {b n o : Nat} (h : Shape w b n) (ho : o < n) : ∃ u, w.cell? ⟨b, o, none⟩ = some u := by
  obtain ⟨cs, E, h, hn⟩ := h
  exact ⟨cs[o]'(by omega), by rw [blk_cell h]; exact Array.getElem?_eq_getElem _⟩
theorem Shape.free {w : World} {b n : Nat} (h : Shape w b n) (o : Nat) : w.frozen? ⟨b, o, none⟩ = false := by
  obtain ⟨cs, E, h, -⟩ := h
  exact blk_free h o
theorem Shape.grow {w w' : World} {b n : Nat} (h : Shape w b n) (g : Grow w w') : Shape w' b n := by
  obtain ⟨cs, E, h, hn⟩ := h
  exact ⟨cs, E, (g.heapEq (blk_lt h)).trans h, hn⟩
theorem Shape.set {w : World} {b n : Nat} (h : Shape w b n) (b' j : Nat) (u : Value) : Shape (w.setCell ⟨b', j, none⟩ u) b n := by
  obtain ⟨cs, E, h, hn⟩ := h
  by_cases hb : b = b'
  · subst hb
    exact ⟨_, E, heap_setCell_same w b j cs E u h, by simpa using hn⟩
  · exact ⟨cs, E, (Below.heap_setCell _ _ _ _ hb).trans h, hn⟩
theorem cell_set_other {w : World} {b g : Nat} (hb : b ≠ g) (j o : Nat) (u : Value) : (w.setCell ⟨b, j, none⟩ u).cell? ⟨g, o, none⟩ = w.cell? ⟨g, o, none⟩ :=
  World.cell?_of_block (w := w) (Below.heap_setCell _ _ _ _ (fun e => hb e.symm))
theorem cell_set_off {w : World} {b j o : Nat} {u x : Value} (h : w.cell? ⟨b, o, none⟩ = some x) (hf : ∃ n, Shape w b n) (hj : o ≠ j) : (w.setCell ⟨b, j, none⟩ u).cell? ⟨b, o, none⟩ = some x := by
  obtain ⟨_, cs, E, hh, -⟩ := hf
  rw [blk_cell (heap_setCell_same w b j cs E u hh)]
  rw [blk_cell hh] at h
  rw [Array.getElem?_setIfInBounds_ne (by omega)]
  exact h
theorem OwnL.shape {α : Type} {w : World} {E : TypeId} {sz : Nat} {R : α → List Value → Prop} {v : Value} {l : List α} {g : Nat} (h : OwnL w E sz R v l (some g)) : Shape w g (l.length * sz) := by
  obtain ⟨rows, _, _, h⟩ := h
  rcases h.2 with ⟨_, _, _, h, _⟩ | ⟨g', cap, cur, _, e, hh, h1, h2, h3, _⟩
  · cases h
  · cases e
    exact ⟨cur, E, hh, by rw [h3]; exact Nat.mul_le_mul_right _ h1⟩
theorem OwnL.addr {α : Type} {w : World} {E : TypeId} {sz : Nat} {R : α → List Value → Prop} {oa : Option Addr} {n cap : Nat} {l : List α} {ob : Option Nat} (h : OwnL w E sz R (.slice oa n cap) l ob) (h0 : 0 < l.length) : ∃ g, ob = some g ∧ oa = some ⟨g, 0, none⟩ ∧ n = l.length ∧ n ≤ cap ∧ cap ≤ maxLen := by
  obtain ⟨rows, _, _, h⟩ := h
  rcases h.2 with ⟨_, hv, _, _, hx⟩ | ⟨g', cap', cur, hv, e, hh, h1, h2, h3, _⟩
  · simp only [Value.slice.injEq] at hv
    omega
  · simp only [Value.slice.injEq] at hv
    obtain ⟨rfl, rfl, rfl⟩ := hv
    exact ⟨g', e, rfl, rfl, h1, h2⟩
/-- rows from the i-th on are whole: what stands at P is a slice of properties that may be written -/
def Over (sz P lo hi g n i : Nat) (w : World) : Prop := Shape w g (n * sz) ∧ (lo ≤ g ∧ g < hi) ∧ ∀ j, i ≤ j → j < n → ∃ pa len pc, w.cell? ⟨g, j * sz + P, none⟩ = some (.slice pa len pc) ∧ len ≤ pc ∧ pc ≤ maxLen ∧
  (0 < len → ∃ b, pa = some ⟨b, 0, none⟩ ∧ b ≠ g ∧ (lo ≤ b ∧ b < hi) ∧ Shape w b (len * 4))
theorem Over.grow {sz P lo hi g n i : Nat} {w w' : World} (h : Over sz P lo hi g n i w) (gr : Grow w w') : Over sz P lo hi g n i w' := by
  obtain ⟨h1, h2, h3⟩ := h
  refine ⟨h1.grow gr, h2, fun j hj hn => ?_⟩
  obtain ⟨pa, len, pc, k1, k2, k3, k4⟩ := h3 j hj hn
  refine ⟨pa, len, pc, (gr.cell (p := ⟨g, j * sz + P, none⟩) h1.lt).trans k1, k2, k3, fun h0 => ?_⟩
  obtain ⟨b, q1, q2, q3, q4⟩ := k4 h0
  exact ⟨b, q1, q2, q3, q4.grow gr⟩
theorem Over.next {sz P lo hi g n i : Nat} {w : World} (h : Over sz P lo hi g n i w) : Over sz P lo hi g n (i + 1) w := ⟨h.1, h.2.1, fun j hj hn => h.2.2 j (by omega) hn⟩
/-- a cell elsewhere is written -/
theorem Over.setP {sz P lo hi g n i : Nat} {w : World} (h : Over sz P lo hi g n i w) {b : Nat} (hb : b ≠ g) (o : Nat) (u : Value) : Over sz P lo hi g n i (w.setCell ⟨b, o, none⟩ u) := by
  obtain ⟨h1, h2, h3⟩ := h
  refine ⟨h1.set b o u, h2, fun j hj hn => ?_⟩
  obtain ⟨pa, len, pc, k1, k2, k3, k4⟩ := h3 j hj hn
  refine ⟨pa, len, pc, (cell_set_other hb o _ u).trans k1, k2, k3, fun h0 => ?_⟩
  obtain ⟨b', q1, q2, q3, q4⟩ := k4 h0
  exact ⟨b', q1, q2, q3, q4.set b o u⟩
/-- a cell of a row that is done with is written -/
theorem Over.setN {sz P lo hi g n i : Nat} {w : World} (h : Over sz P lo hi g n i w) {o : Nat} (ho : ∀ j, i ≤ j → j * sz + P ≠ o) (u : Value) : Over sz P lo hi g n i (w.setCell ⟨g, o, none⟩ u) := by
  obtain ⟨h1, h2, h3⟩ := h
  refine ⟨h1.set g o u, h2, fun j hj hn => ?_⟩
  obtain ⟨pa, len, pc, k1, k2, k3, k4⟩ := h3 j hj hn
  refine ⟨pa, len, pc, cell_set_off k1 ⟨_, h1⟩ (ho j hj), k2, k3, fun h0 => ?_⟩
  obtain ⟨b', q1, q2, q3, q4⟩ := k4 h0
  exact ⟨b', q1, q2, q3, q4.set g o u⟩
theorem over_props {lo g : Nat} {w : World} {pv : Value} {ps : List PProp} {ob : Option Nat} (ho : OwnL w 54 4 RProp pv ps ob) (hs : ∀ b, ob = some b → lo ≤ b ∧ some g ≠ some b) :
    ∃ pa len pc, pv = .slice pa len pc ∧ len ≤ pc ∧ pc ≤ maxLen ∧ (0 < len → ∃ b, pa = some ⟨b, 0, none⟩ ∧ b ≠ g ∧ (lo ≤ b ∧ b < w.heap.size) ∧ Shape w b (len * 4)) := by
  obtain ⟨pa, pc, rfl, h1, h2⟩ : ∃ a c, pv = .slice a ps.length c ∧ ps.length ≤ c ∧ c ≤ maxLen := by obtain ⟨_, _, _, h⟩ := ho; obtain ⟨oa, cap, h, h1, h2⟩ := h.isSlice; exact ⟨oa, cap, h, h1, h2⟩
  refine ⟨pa, ps.length, pc, rfl, h1, h2, fun h0 => ?_⟩
  obtain ⟨b, rfl, hb, -, -, -⟩ := ho.addr h0
  exact ⟨b, hb, fun e => (hs b rfl).2 (by rw [e]), ⟨(hs b rfl).1, ho.lt b rfl⟩, ho.shape⟩
theorem over_nodes {lo g : Nat} {w : World} {v : Value} {l : List PNode} (h : OwnL w 52 3 (RNodeO (fun b => lo ≤ b ∧ some g ≠ some b) w) v l (some g)) (hg : lo ≤ g) : Over 3 2 lo w.heap.size g l.length 0 w := by
  refine ⟨h.shape, ⟨hg, h.lt g rfl⟩, fun j _ hj => ?_⟩
  obtain ⟨r, ⟨pv, ob, rfl, ho, hs⟩, -, hc⟩ := h.row (List.getElem?_eq_getElem hj)
  obtain ⟨pa, len, pc, rfl, h1, h2, h3⟩ := over_props ho hs
  exact ⟨pa, len, pc, by have := hc 2 _ rfl; rwa [Nat.zero_add] at this, h1, h2, h3⟩
theorem over_edges {lo g : Nat} {w : World} {v : Value} {l : List PEdge} (h : OwnL w 56 5 (REdgeO (fun b => lo ≤ b ∧ some g ≠ some b) w) v l (some g)) (hg : lo ≤ g) : Over 5 4 lo w.heap.size g l.length 0 w := by
  refine ⟨h.shape, ⟨hg, h.lt g rfl⟩, fun j _ hj => ?_⟩
  obtain ⟨r, ⟨pv, ob, rfl, ho, hs⟩, -, hc⟩ := h.row (List.getElem?_eq_getElem hj)
  obtain ⟨pa, len, pc, rfl, h1, h2, h3⟩ := over_props ho hs
  exact ⟨pa, len, pc, by have := hc 4 _ rfl; rwa [Nat.zero_add] at this, h1, h2, h3⟩
/-- of a slice that may be empty -/
def OverV (sz P lo hi : Nat) (oa : Option Addr) (n i : Nat) (w : World) : Prop := 0 < n → ∃ g, oa = some ⟨g, 0, none⟩ ∧ Over sz P lo hi g n i w
theorem OverV.grow {sz P lo hi n i : Nat} {oa : Option Addr} {w w' : World} (h : OverV sz P lo hi oa n i w) (gr : Grow w w') : OverV sz P lo hi oa n i w' := fun h0 => by
  obtain ⟨g, e, h⟩ := h h0
  exact ⟨g, e, h.grow gr⟩
theorem OverV.setP {sz P lo hi n i : Nat} {oa : Option Addr} {w : World} (h : OverV sz P lo hi oa n i w) {b : Nat} (hb : b < lo) (o : Nat) (u : Value) : OverV sz P lo hi oa n i (w.setCell ⟨b, o, none⟩ u) := fun h0 => by
  obtain ⟨g, e, h⟩ := h h0
  exact ⟨g, e, h.setP (by have := h.2.1.1; omega) o u⟩
theorem overV_nodes {lo : Nat} {w : World} {oa : Option Addr} {cap : Nat} {l : List PNode} {ob : Option Nat} (h : OwnL w 52 3 (RNodeO (fun b => lo ≤ b ∧ ob ≠ some b) w) (.slice oa l.length cap) l ob) (hg : ∀ g, ob = some g → lo ≤ g) : OverV 3 2 lo w.heap.size oa l.length 0 w := fun h0 => by
  obtain ⟨g, rfl, rfl, -, -, -⟩ := h.addr h0
  exact ⟨g, rfl, over_nodes h (hg g rfl)⟩
theorem overV_edges {lo : Nat} {w : World} {oa : Option Addr} {cap : Nat} {l : List PEdge} {ob : Option Nat} (h : OwnL w 56 5 (REdgeO (fun b => lo ≤ b ∧ ob ≠ some b) w) (.slice oa l.length cap) l ob) (hg : ∀ g, ob = some g → lo ≤ g) : OverV 5 4 lo w.heap.size oa l.length 0 w := fun h0 => by
  obtain ⟨g, rfl, rfl, -, -, -⟩ := h.addr h0
  exact ⟨g, rfl, over_edges h (hg g rfl)⟩
end Go.Hg
