/- hedgerowlaw17.look at equal graphs: true. No condition but a graph's own. Printed by genlook.py. -/
import Derived.Test.YtcokiflkjnekeaaGreatPair
import Derived.Test.YtcokiflkjnekeaaGreatRefC
import Derived.Test.YtcokiflkjnekeaaGreatKeepD
import Derived.Test.YtcokiflkjnekeaaGreatLawB
namespace Go.Hg
open Go.RowKit Go.Proofs

def noN : PNode := ⟨0, ByteArray.empty, []⟩
def noE : PEdge := ⟨0, ByteArray.empty, 0, 0, []⟩
/-- what Node tells, one way or the other -/
theorem NodePost.uni {G : PGraph} {id : Int} {w w' : World} {e : Ending} (h : NodePost G id w e w') :
    ∃ x pv ok, e = .returned (.tuple #[.agg #[.int .i64 x.id, .string x.typ, pv], .bool ok]) ∧ PropsR (fun _ => True) w' pv x.props ∧ ((ok = true ∧ (G.nodes.find? fun x => decide (x.id = id)) = some x) ∨ (ok = false ∧ (G.nodes.find? fun x => decide (x.id = id)) = none ∧ x = noN)) ∧ Grow w w' := by
  obtain ⟨⟨h1, rfl⟩ | ⟨x, pv, h1, rfl, h2⟩, hg⟩ := h
  · exact ⟨noN, _, false, rfl, PropsR.nil _ _, .inr ⟨rfl, h1, rfl⟩, hg⟩
  · exact ⟨x, pv, true, rfl, h2.sub (fun _ _ => trivial), .inl ⟨rfl, h1⟩, hg⟩
theorem EdgePost.uni {G : PGraph} {id : Int} {w w' : World} {e : Ending} (h : EdgePost G id w e w') :
    ∃ x pv ok, e = .returned (.tuple #[.agg #[.int .i64 x.id, .string x.typ, .int .i64 x.from_, .int .i64 x.to_, pv], .bool ok]) ∧ PropsR (fun _ => True) w' pv x.props ∧ ((ok = true ∧ (G.edges.find? fun x => decide (x.id = id)) = some x) ∨ (ok = false ∧ (G.edges.find? fun x => decide (x.id = id)) = none ∧ x = noE)) ∧ Grow w w' := by
  obtain ⟨⟨h1, rfl⟩ | ⟨x, pv, h1, rfl, h2⟩, hg⟩ := h
  · exact ⟨noE, _, false, rfl, PropsR.nil _ _, .inr ⟨rfl, h1, rfl⟩, hg⟩
  · exact ⟨x, pv, true, rfl, h2.sub (fun _ _ => trivial), .inl ⟨rfl, h1⟩, hg⟩
theorem idxZ_find {α : Type} {f : α → Int} {l : List α} {id : Int} {x : α} (hs : (l.map f).Pairwise (· < ·)) (h : (l.find? fun y => decide (f y = id)) = some x) : ∃ k : Nat, idxZ f l id = k ∧ k < l.length ∧ l[k]? = some x := by
  have hx := List.mem_of_find?_eq_some h
  have hp := List.find?_some h
  obtain ⟨k, y, hz, hk, hy, hid⟩ := idxZ_some (f := f) (l := l) (id := id) (List.any_eq_true.2 ⟨x, hx, hp⟩)
  have := find_idx f hs hy hid
  rw [h] at this
  simp only [Option.some.injEq] at this
  subst this
  exact ⟨k, hz, hk, hy⟩
theorem idxZ_nofind {α : Type} {f : α → Int} {l : List α} {id : Int} (h : (l.find? fun y => decide (f y = id)) = none) : idxZ f l id = -1 :=
  idxZ_miss fun y hy => by have := List.find?_eq_none.1 h y hy; simpa using this
theorem box_grow {w w' : World} {o : Obj} (h : Grow (w.alloc o) w') : w'.heap[w.heap.size]? = some o := by rw [h.heapEq (by simp)]; exact heap_alloc_new w o
theorem boxes3 (w : World) (o1 o2 o3 : Obj) : Grow w (((w.alloc o1).alloc o2).alloc o3) ∧ (((w.alloc o1).alloc o2).alloc o3).heap[w.heap.size]? = some o1 ∧ (((w.alloc o1).alloc o2).alloc o3).heap[w.heap.size + 1]? = some o2 ∧ (((w.alloc o1).alloc o2).alloc o3).heap[w.heap.size + 1 + 1]? = some o3 := by
  refine ⟨(((Grow.rfl' w).allocd o1).allocd o2).allocd o3, ?_, ?_, ?_⟩
  · rw [heap_alloc_old _ _ (by simp; omega), heap_alloc_old _ _ (by simp)]
    exact heap_alloc_new w o1
  · rw [heap_alloc_old _ _ (by simp)]
    have := heap_alloc_new (w.alloc o1) o2
    rwa [World.size_alloc] at this
  · have := heap_alloc_new ((w.alloc o1).alloc o2) o3
    rwa [World.size_alloc, World.size_alloc] at this
theorem keepNodeSame (Sa Sb : Nat → Prop) (a : PNode) (pa pb : Value) (w : World) (ha : PropsR Sa w pa a.props) (hb : PropsR Sb w pb a.props) :
    Calls Tryz.prog 34 #[.agg #[.int .i64 a.id, .string a.typ, pa], .agg #[.int .i64 a.id, .string a.typ, pb]] w fun e w' => e = .returned (.bool true) ∧ Grow w w' :=
  (keepNode Sa Sb a a pa pb w ha hb).mono fun e w' ⟨h, g⟩ => ⟨by rw [h, decide_eq_true rfl], g⟩
theorem keepEdgeSame (Sa Sb : Nat → Prop) (a : PEdge) (pa pb : Value) (w : World) (ha : PropsR Sa w pa a.props) (hb : PropsR Sb w pb a.props) :
    Calls Tryz.prog 35 #[.agg #[.int .i64 a.id, .string a.typ, .int .i64 a.from_, .int .i64 a.to_, pa], .agg #[.int .i64 a.id, .string a.typ, .int .i64 a.from_, .int .i64 a.to_, pb]] w fun e w' => e = .returned (.bool true) ∧ Grow w w' :=
  (keepEdge Sa Sb a a pa pb w ha hb).mono fun e w' ⟨h, g⟩ => ⟨by rw [h, decide_eq_true rfl], g⟩

set_option maxRecDepth 100000 in
set_option maxHeartbeats 8000000 in
theorem lawLook (S1 S2 : Nat → Prop) (B1 B2 : Nat) (G : PGraph) (id : Int) (typ : ByteArray) (w : World) (h1 : GraphOk 68 S1 w B1 G) (h2 : GraphOk 70 S2 w B2 G) (hi : GInv G) :
    Calls Tryz.prog 14 #[.pointer (some ⟨B1, 0, none⟩), .pointer (some ⟨B2, 0, none⟩), .int .i64 id, .string typ] w fun e w' => e = .returned (.bool true) ∧ Grow w w' := by
  have H1 := Lib.hid h1.rd; have H2 := Lib.hid h2.cut.rd; have HI := Lib.hid hi
  have HRT := Lib.hid h2.rootLt
  have HNL := Lib.hid (show G.nodes.length ≤ 1099511627776 by have := hi.items; omega)
  have HEL := Lib.hid (show G.edges.length ≤ 1099511627776 by have := hi.items; omega)
  have HNP := Lib.hid (show ∀ x ∈ G.nodes, x.props.length ≤ 1099511627776 from fun x hx => by have := (hi.nodesB x hx).2.2; omega)
  have HEP := Lib.hid (show ∀ x ∈ G.edges, x.props.length ≤ 1099511627776 from fun x hx => by have := (hi.edgesB x hx).2.2; omega)
  clear h1 h2 hi
  go_enter Tryz.func14, Tryz.ntmps14
  go_wp2_with fail
  refine (graphGetNode S1 B1 G id _ H1.out HI.out.nodes HNL.out HNP.out).mono ?_
  rintro e w2 hx
  obtain ⟨xN, pN, okN, rfl, hpN, hcN, hg⟩ := hx.uni
  have HPN := Lib.hid hpN.cut; have HCN := Lib.hid hcN; have HG2 := Lib.hid hg
  obtain ⟨pna, pnc, rfl⟩ := hpN.isSlice
  clear hx hpN hcN hg
  have HW2 := Lib.hid (show ∀ o1, Grow w2 (w2.alloc o1) from fun o1 => (Grow.rfl' w2).allocd o1)
  go_wp2_with fail
  refine (graphGetEdge S1 B1 G id _ (H1.out.grow (HG2.out.step (HW2.out _))) HI.out.edges HEL.out HEP.out).mono ?_
  rintro e w3 hx
  obtain ⟨xE, pE, okE, rfl, hpE, hcE, hg⟩ := hx.uni
  have HPE := Lib.hid hpE.cut; have HCE := Lib.hid hcE; have HG3 := Lib.hid ((HG2.out.step (HW2.out _)).step hg)
  have HBN := Lib.hid (box_grow hg); have HBNG := Lib.hid hg
  obtain ⟨pea, pec, rfl⟩ := hpE.isSlice
  clear hx hpE hcE hg
  have HB3 := Lib.hid (boxes3 w3 (.cells #[.int .i64 xE.id, .string xE.typ, .int .i64 xE.from_, .int .i64 xE.to_, .slice pea xE.props.length pec] 79) (.cells #[.int .i64 0, .string ByteArray.empty, .slice none 0 0] 59) (.cells #[.int .i64 0, .string ByteArray.empty, .int .i64 0, .int .i64 0, .slice none 0 0] 79))
  have h23 : w2.heap.size < w3.heap.size := by have := HBNG.out.size; simp at this; omega
  go_wp2_with fail
  refine (refNode _ B2 G id _ (H2.out.grow (HG3.out.step (HB3.out.1)))).mono ?_
  rintro e wb ⟨rfl, hwb⟩
  have HGB := Lib.hid (show Grow w3 wb from hwb ▸ HB3.out.1)
  have HEB := Lib.hid (show wb.heap[w3.heap.size]? = _ from hwb ▸ HB3.out.2.1)
  have HZN := Lib.hid (show wb.heap[w3.heap.size + 1]? = _ from hwb ▸ HB3.out.2.2.1)
  have HZE := Lib.hid (show wb.heap[w3.heap.size + 1 + 1]? = _ from hwb ▸ HB3.out.2.2.2)
  have HNB := Lib.hid (show wb.heap[w2.heap.size]? = _ from (HGB.out.heapEq h23).trans HBN.out)
  clear hwb
  go_wp2_with fail
  refine (refEdge _ B2 G id _ (H2.out.grow (HG3.out.step HGB.out))).mono ?_
  rintro e wc ⟨rfl, hwc⟩
  rw [hwc]
  clear hwc wc
  obtain ⟨qna, qnc, qea, qec, hqB, q0, q1, q2, hqn, hqe⟩ := (H2.out.grow (HG3.out.step HGB.out)).read
  obtain ⟨_, _, hv, hqnl, hqnc, hQN⟩ := SlR.open hqn
  simp only [Value.slice.injEq, true_and] at hv
  obtain ⟨rfl, rfl⟩ := hv
  obtain ⟨_, _, hv, hqel, hqec, hQE⟩ := SlR.open hqe
  simp only [Value.slice.injEq, true_and] at hv
  obtain ⟨rfl, rfl⟩ := hv
  unfold maxLen at hqnc hqec
  have HQN := Lib.hid hQN; have HQE := Lib.hid hQE
  clear hqn hqe hQN hQE
  have l0 := blk_lt HNB.out; have l1 := blk_lt HEB.out; have l2 := blk_lt HZN.out; have l3 := blk_lt HZE.out
  have n0 : wb.cell? ⟨w2.heap.size, 0, none⟩ = some (.int .i64 xN.id) := by rw [blk_cell HNB.out]; rfl
  have n1 : wb.cell? ⟨w2.heap.size, 1, none⟩ = some (.string xN.typ) := by rw [blk_cell HNB.out]; rfl
  have n2 : wb.cell? ⟨w2.heap.size, 2, none⟩ = some (.slice pna xN.props.length pnc) := by rw [blk_cell HNB.out]; rfl
  have z0 : wb.cell? ⟨w3.heap.size + 1, 0, none⟩ = some (.int .i64 0) := by rw [blk_cell HZN.out]; rfl
  have zf0 := blk_free HZN.out 0
  have z1 : wb.cell? ⟨w3.heap.size + 1, 1, none⟩ = some (.string ByteArray.empty) := by rw [blk_cell HZN.out]; rfl
  have zf1 := blk_free HZN.out 1
  have z2 : wb.cell? ⟨w3.heap.size + 1, 2, none⟩ = some (.slice none 0 0) := by rw [blk_cell HZN.out]; rfl
  have zf2 := blk_free HZN.out 2
  have y0 : wb.cell? ⟨w3.heap.size + 1 + 1, 0, none⟩ = some (.int .i64 0) := by rw [blk_cell HZE.out]; rfl
  have yf0 := blk_free HZE.out 0
  have y1 : wb.cell? ⟨w3.heap.size + 1 + 1, 1, none⟩ = some (.string ByteArray.empty) := by rw [blk_cell HZE.out]; rfl
  have yf1 := blk_free HZE.out 1
  have y2 : wb.cell? ⟨w3.heap.size + 1 + 1, 2, none⟩ = some (.int .i64 0) := by rw [blk_cell HZE.out]; rfl
  have yf2 := blk_free HZE.out 2
  have y3 : wb.cell? ⟨w3.heap.size + 1 + 1, 3, none⟩ = some (.int .i64 0) := by rw [blk_cell HZE.out]; rfl
  have yf3 := blk_free HZE.out 3
  have y4 : wb.cell? ⟨w3.heap.size + 1 + 1, 4, none⟩ = some (.slice none 0 0) := by rw [blk_cell HZE.out]; rfl
  have yf4 := blk_free HZE.out 4
  have ne1 : ¬ w2.heap.size = w3.heap.size + 1 := by omega
  have ne2 : ¬ w2.heap.size = w3.heap.size + 1 + 1 := by omega
  have HA : Hid (∃ (kN : Int), idxZ (fun x : PNode => x.id) G.nodes id = kN ∧ ((okN = true ∧ ∃ k : Nat, kN = k ∧ k < G.nodes.length ∧ G.nodes[k]? = some xN) ∨ (okN = false ∧ kN = -1 ∧ xN = noN))) := Lib.hid (by
    rcases HCN.out with ⟨rfl, hf⟩ | ⟨rfl, hf, rfl⟩
    · obtain ⟨k, hz, hkl, hxk⟩ := idxZ_find (f := fun x : PNode => x.id) HI.out.nodes hf
      exact ⟨_, rfl, .inl ⟨rfl, k, hz, hkl, hxk⟩⟩
    · exact ⟨_, rfl, .inr ⟨rfl, idxZ_nofind (f := fun x : PNode => x.id) hf, rfl⟩⟩)
  have HB : Hid (∃ (kE : Int), idxZ (fun x : PEdge => x.id) G.edges id = kE ∧ ((okE = true ∧ ∃ k : Nat, kE = k ∧ k < G.edges.length ∧ G.edges[k]? = some xE) ∨ (okE = false ∧ kE = -1 ∧ xE = noE))) := Lib.hid (by
    rcases HCE.out with ⟨rfl, hf⟩ | ⟨rfl, hf, rfl⟩
    · obtain ⟨k, hz, hkl, hxk⟩ := idxZ_find (f := fun x : PEdge => x.id) HI.out.edges hf
      exact ⟨_, rfl, .inl ⟨rfl, k, hz, hkl, hxk⟩⟩
    · exact ⟨_, rfl, .inr ⟨rfl, idxZ_nofind (f := fun x : PEdge => x.id) hf, rfl⟩⟩)
  obtain ⟨kN, hkN, hN⟩ := HA.out
  obtain ⟨kE, hkE, hE⟩ := HB.out
  rw [hkN, hkE]
  clear hkN hkE HA HB
  have HGC := Lib.hid (HG3.out.step HGB.out)
  have hw2 : w.heap.size ≤ w2.heap.size := HG2.out.size
  have nB2 : ¬ B2 = w3.heap.size + 1 := by have := HRT.out; omega
  have HFN := Lib.hid (show ∀ b, b < w3.heap.size → ¬ (b = w3.heap.size + 1 ∨ b = w3.heap.size + 1 + 1) from fun b hb e => by omega)
  have HPNB := Lib.hid (HPN.out.grow (((HW2.out _).step HBNG.out).step HGB.out))
  have HPEB := Lib.hid (HPE.out.grow HGB.out)

  rcases hN with ⟨rfl, hN⟩ | ⟨rfl, hN⟩
  · rcases hE with ⟨rfl, hE⟩ | ⟨rfl, hE⟩
    · obtain ⟨k, rfl, hkl, hxk⟩ := hN
      have hk0 : decide ((0 : Int) ≤ (k : Int)) = true := by simp
      obtain ⟨ba, oa, ra, rfl, hSa, hba, hRa, hca⟩ := HQN.out k xN hxk
      have nba : ¬ ba = w3.heap.size + 1 := by have := hSa.2; omega
      obtain ⟨pva, hba', a0, a1, a2, hpa⟩ := hRa.at hba (Grow.rfl' _) hca
      obtain ⟨paa, pac, rfl⟩ := hpa.isSlice
      have HPA := Lib.hid hpa
      clear hxk hRa hca hba hpa hSa
      obtain ⟨k', rfl, hkl', hxk'⟩ := hE
      have hk0' : decide ((0 : Int) ≤ (k' : Int)) = true := by simp
      obtain ⟨bb, ob, rb, rfl, hSb, hbb, hRb, hcb⟩ := HQE.out k' xE hxk'
      have nbb : ¬ bb = w3.heap.size + 1 := by have := hSb.2; omega
      obtain ⟨pvb, hbb', b0, b1, b2, b3, b4, hpb⟩ := hRb.at hbb (Grow.rfl' _) hcb
      obtain ⟨pba, pbc, rfl⟩ := hpb.isSlice
      have HPB := Lib.hid hpb
      clear hxk' hRb hcb hbb hpb hSb
      go_wp2_with fail
      refine (keepNodeSame _ _ xN _ _ _ (HPNB.out.mod (((((((((Mod.rfl' (fun b => b = w3.heap.size + 1 ∨ b = w3.heap.size + 1 + 1) wb).setd (p := ⟨w3.heap.size + 1, 0, none⟩) (.inl (.inl rfl)) _).setd (p := ⟨w3.heap.size + 1, 1, none⟩) (.inl (.inl rfl)) _).setd (p := ⟨w3.heap.size + 1, 2, none⟩) (.inl (.inl rfl)) _).setd (p := ⟨w3.heap.size + 1 + 1, 0, none⟩) (.inl (.inr rfl)) _).setd (p := ⟨w3.heap.size + 1 + 1, 1, none⟩) (.inl (.inr rfl)) _).setd (p := ⟨w3.heap.size + 1 + 1, 2, none⟩) (.inl (.inr rfl)) _).setd (p := ⟨w3.heap.size + 1 + 1, 3, none⟩) (.inl (.inr rfl)) _).setd (p := ⟨w3.heap.size + 1 + 1, 4, none⟩) (.inl (.inr rfl)) _) (fun b hb => HFN.out b (by have := hb.2; omega))) (HPA.out.mod (((((((((Mod.rfl' (fun b => b = w3.heap.size + 1 ∨ b = w3.heap.size + 1 + 1) wb).setd (p := ⟨w3.heap.size + 1, 0, none⟩) (.inl (.inl rfl)) _).setd (p := ⟨w3.heap.size + 1, 1, none⟩) (.inl (.inl rfl)) _).setd (p := ⟨w3.heap.size + 1, 2, none⟩) (.inl (.inl rfl)) _).setd (p := ⟨w3.heap.size + 1 + 1, 0, none⟩) (.inl (.inr rfl)) _).setd (p := ⟨w3.heap.size + 1 + 1, 1, none⟩) (.inl (.inr rfl)) _).setd (p := ⟨w3.heap.size + 1 + 1, 2, none⟩) (.inl (.inr rfl)) _).setd (p := ⟨w3.heap.size + 1 + 1, 3, none⟩) (.inl (.inr rfl)) _).setd (p := ⟨w3.heap.size + 1 + 1, 4, none⟩) (.inl (.inr rfl)) _) (fun b hb => HFN.out b (by have := hb.2; omega)))).mono ?_
      rintro e w10 ⟨rfl, hg10⟩
      have HM10 := Lib.hid (Mod.step (((((((((Mod.rfl' (fun b => b = w3.heap.size + 1 ∨ b = w3.heap.size + 1 + 1) wb).setd (p := ⟨w3.heap.size + 1, 0, none⟩) (.inl (.inl rfl)) _).setd (p := ⟨w3.heap.size + 1, 1, none⟩) (.inl (.inl rfl)) _).setd (p := ⟨w3.heap.size + 1, 2, none⟩) (.inl (.inl rfl)) _).setd (p := ⟨w3.heap.size + 1 + 1, 0, none⟩) (.inl (.inr rfl)) _).setd (p := ⟨w3.heap.size + 1 + 1, 1, none⟩) (.inl (.inr rfl)) _).setd (p := ⟨w3.heap.size + 1 + 1, 2, none⟩) (.inl (.inr rfl)) _).setd (p := ⟨w3.heap.size + 1 + 1, 3, none⟩) (.inl (.inr rfl)) _).setd (p := ⟨w3.heap.size + 1 + 1, 4, none⟩) (.inl (.inr rfl)) _) (Mod.of_grow hg10))
      have he := (HM10.out.block w3.heap.size (by omega) (by omega)).trans HEB.out
      have le := blk_lt he
      have hs10 := HM10.out.size
      have e0 : w10.cell? ⟨w3.heap.size, 0, none⟩ = some (.int .i64 xE.id) := by rw [blk_cell he]; rfl
      have e1 : w10.cell? ⟨w3.heap.size, 1, none⟩ = some (.string xE.typ) := by rw [blk_cell he]; rfl
      have e2 : w10.cell? ⟨w3.heap.size, 2, none⟩ = some (.int .i64 xE.from_) := by rw [blk_cell he]; rfl
      have e3 : w10.cell? ⟨w3.heap.size, 3, none⟩ = some (.int .i64 xE.to_) := by rw [blk_cell he]; rfl
      have e4 : w10.cell? ⟨w3.heap.size, 4, none⟩ = some (.slice pea xE.props.length pec) := by rw [blk_cell he]; rfl
      have d0 : w10.cell? ⟨w3.heap.size + 1 + 1, 0, none⟩ = some (.int .i64 xE.id) := (hg10.cell (p := ⟨w3.heap.size + 1 + 1, 0, none⟩) (by simp <;> omega)).trans (by go_simp)
      have d1 : w10.cell? ⟨w3.heap.size + 1 + 1, 1, none⟩ = some (.string xE.typ) := (hg10.cell (p := ⟨w3.heap.size + 1 + 1, 1, none⟩) (by simp <;> omega)).trans (by go_simp)
      have d2 : w10.cell? ⟨w3.heap.size + 1 + 1, 2, none⟩ = some (.int .i64 xE.from_) := (hg10.cell (p := ⟨w3.heap.size + 1 + 1, 2, none⟩) (by simp <;> omega)).trans (by go_simp)
      have d3 : w10.cell? ⟨w3.heap.size + 1 + 1, 3, none⟩ = some (.int .i64 xE.to_) := (hg10.cell (p := ⟨w3.heap.size + 1 + 1, 3, none⟩) (by simp <;> omega)).trans (by go_simp)
      have d4 : w10.cell? ⟨w3.heap.size + 1 + 1, 4, none⟩ = some (.slice pba xE.props.length pbc) := (hg10.cell (p := ⟨w3.heap.size + 1 + 1, 4, none⟩) (by simp <;> omega)).trans (by go_simp)
      have HW10 := Lib.hid (HGC.out.modd HM10.out (fun b hb => by omega))
      clear hg10 he
      go_wp2_with fail
      refine (keepEdgeSame _ _ xE _ _ _ (HPEB.out.mod HM10.out (fun b hb => HFN.out b hb.2)) (HPB.out.mod HM10.out (fun b hb => HFN.out b (by have := hb.2; omega)))).mono ?_
      rintro e w11 ⟨rfl, hg11⟩
      have HX11 := Lib.hid (HW10.out.step hg11)
      clear hg11
      go_wp2_with fail
      refine (graphScan S1 B1 G typ _ (H1.out.grow HX11.out) HNL.out).mono ?_
      rintro e w12 ⟨vw12, ow12, rfl, how12, -, hgw12⟩
      have HOw12 := Lib.hid (how12.toR (S := fun _ => True) (fun _ _ => trivial)); have HXw12 := Lib.hid (HX11.out.step hgw12); have HYw12 := Lib.hid hgw12
      obtain ⟨oaw12, ocw12, rfl, -, -⟩ := how12.isSlice
      clear how12 hgw12
      go_wp2_with fail
      refine (refScan _ B2 G typ _ (H2.out.grow HXw12.out) HNL.out).mono ?_
      rintro e w13 ⟨vw13, ow13, rfl, how13, -, hgw13⟩
      have HOw13 := Lib.hid (how13.toR (S := fun _ => True) (fun _ _ => trivial)); have HXw13 := Lib.hid (HXw12.out.step hgw13); have HYw13 := Lib.hid hgw13
      obtain ⟨oaw13, ocw13, rfl, -, -⟩ := how13.isSlice
      clear how13 hgw13
      go_wp2_with fail
      refine (keepLongsEq (fun _ => True) (fun _ => True) _ _ (scanG G typ) _ (SlR.growS HOw12.out HYw13.out) HOw13.out).mono ?_
      rintro e w14 ⟨rfl, hg14⟩
      have HX14 := Lib.hid (HXw13.out.step hg14)
      clear hg14
      go_wp2_with fail
      refine (graphOut S1 B1 G id typ _ (H1.out.grow HX14.out) HEL.out).mono ?_
      rintro e w15 ⟨vw15, ow15, rfl, how15, -, hgw15⟩
      have HOw15 := Lib.hid (how15.toR (S := fun _ => True) (fun _ _ => trivial)); have HXw15 := Lib.hid (HX14.out.step hgw15); have HYw15 := Lib.hid hgw15
      obtain ⟨oaw15, ocw15, rfl, -, -⟩ := how15.isSlice
      clear how15 hgw15
      go_wp2_with fail
      refine (refOut _ B2 G id typ _ (H2.out.grow HXw15.out) HEL.out).mono ?_
      rintro e w16 ⟨vw16, ow16, rfl, how16, -, hgw16⟩
      have HOw16 := Lib.hid (how16.toR (S := fun _ => True) (fun _ _ => trivial)); have HXw16 := Lib.hid (HXw15.out.step hgw16); have HYw16 := Lib.hid hgw16
      obtain ⟨oaw16, ocw16, rfl, -, -⟩ := how16.isSlice
      clear how16 hgw16
      go_wp2_with fail
      refine (keepLongsEq (fun _ => True) (fun _ => True) _ _ (someE G.edges typ fun x => decide (x.from_ = id)) _ (SlR.growS HOw15.out HYw16.out) HOw16.out).mono ?_
      rintro e w17 ⟨rfl, hg17⟩
      have HX17 := Lib.hid (HXw16.out.step hg17)
      clear hg17
      go_wp2_with fail
      refine (graphIn S1 B1 G id typ _ (H1.out.grow HX17.out) HEL.out).mono ?_
      rintro e w18 ⟨vw18, ow18, rfl, how18, -, hgw18⟩
      have HOw18 := Lib.hid (how18.toR (S := fun _ => True) (fun _ _ => trivial)); have HXw18 := Lib.hid (HX17.out.step hgw18); have HYw18 := Lib.hid hgw18
      obtain ⟨oaw18, ocw18, rfl, -, -⟩ := how18.isSlice
      clear how18 hgw18
      go_wp2_with fail
      refine (refIn _ B2 G id typ _ (H2.out.grow HXw18.out) HEL.out).mono ?_
      rintro e w19 ⟨vw19, ow19, rfl, how19, -, hgw19⟩
      have HOw19 := Lib.hid (how19.toR (S := fun _ => True) (fun _ _ => trivial)); have HXw19 := Lib.hid (HXw18.out.step hgw19); have HYw19 := Lib.hid hgw19
      obtain ⟨oaw19, ocw19, rfl, -, -⟩ := how19.isSlice
      clear how19 hgw19
      go_wp2_with fail
      refine (keepLongsEq (fun _ => True) (fun _ => True) _ _ (someE G.edges typ fun x => decide (x.to_ = id)) _ (SlR.growS HOw18.out HYw19.out) HOw19.out).mono ?_
      rintro e w20 ⟨rfl, hg20⟩
      have HX20 := Lib.hid (HXw19.out.step hg20)
      clear hg20
      go_wp2
      go_ret
      exact ⟨rfl, HX20.out⟩
    · obtain ⟨k, rfl, hkl, hxk⟩ := hN
      have hk0 : decide ((0 : Int) ≤ (k : Int)) = true := by simp
      obtain ⟨ba, oa, ra, rfl, hSa, hba, hRa, hca⟩ := HQN.out k xN hxk
      have nba : ¬ ba = w3.heap.size + 1 := by have := hSa.2; omega
      obtain ⟨pva, hba', a0, a1, a2, hpa⟩ := hRa.at hba (Grow.rfl' _) hca
      obtain ⟨paa, pac, rfl⟩ := hpa.isSlice
      have HPA := Lib.hid hpa
      clear hxk hRa hca hba hpa hSa
      obtain ⟨rfl, rfl⟩ := hE
      have HPB := Lib.hid (PropsR.nil (fun b => S2 b ∧ b < w.heap.size) wb)
      go_wp2_with fail
      refine (keepNodeSame _ _ xN _ _ _ (HPNB.out.mod ((((Mod.rfl' (fun b => b = w3.heap.size + 1 ∨ b = w3.heap.size + 1 + 1) wb).setd (p := ⟨w3.heap.size + 1, 0, none⟩) (.inl (.inl rfl)) _).setd (p := ⟨w3.heap.size + 1, 1, none⟩) (.inl (.inl rfl)) _).setd (p := ⟨w3.heap.size + 1, 2, none⟩) (.inl (.inl rfl)) _) (fun b hb => HFN.out b (by have := hb.2; omega))) (HPA.out.mod ((((Mod.rfl' (fun b => b = w3.heap.size + 1 ∨ b = w3.heap.size + 1 + 1) wb).setd (p := ⟨w3.heap.size + 1, 0, none⟩) (.inl (.inl rfl)) _).setd (p := ⟨w3.heap.size + 1, 1, none⟩) (.inl (.inl rfl)) _).setd (p := ⟨w3.heap.size + 1, 2, none⟩) (.inl (.inl rfl)) _) (fun b hb => HFN.out b (by have := hb.2; omega)))).mono ?_
      rintro e w10 ⟨rfl, hg10⟩
      have HM10 := Lib.hid (Mod.step ((((Mod.rfl' (fun b => b = w3.heap.size + 1 ∨ b = w3.heap.size + 1 + 1) wb).setd (p := ⟨w3.heap.size + 1, 0, none⟩) (.inl (.inl rfl)) _).setd (p := ⟨w3.heap.size + 1, 1, none⟩) (.inl (.inl rfl)) _).setd (p := ⟨w3.heap.size + 1, 2, none⟩) (.inl (.inl rfl)) _) (Mod.of_grow hg10))
      have he := (HM10.out.block w3.heap.size (by omega) (by omega)).trans HEB.out
      have le := blk_lt he
      have hs10 := HM10.out.size
      have e0 : w10.cell? ⟨w3.heap.size, 0, none⟩ = some (.int .i64 noE.id) := by rw [blk_cell he]; rfl
      have e1 : w10.cell? ⟨w3.heap.size, 1, none⟩ = some (.string noE.typ) := by rw [blk_cell he]; rfl
      have e2 : w10.cell? ⟨w3.heap.size, 2, none⟩ = some (.int .i64 noE.from_) := by rw [blk_cell he]; rfl
      have e3 : w10.cell? ⟨w3.heap.size, 3, none⟩ = some (.int .i64 noE.to_) := by rw [blk_cell he]; rfl
      have e4 : w10.cell? ⟨w3.heap.size, 4, none⟩ = some (.slice pea noE.props.length pec) := by rw [blk_cell he]; rfl
      have d0 : w10.cell? ⟨w3.heap.size + 1 + 1, 0, none⟩ = some (.int .i64 0) := (hg10.cell (p := ⟨w3.heap.size + 1 + 1, 0, none⟩) (by simp <;> omega)).trans (by go_simp)
      have d1 : w10.cell? ⟨w3.heap.size + 1 + 1, 1, none⟩ = some (.string ByteArray.empty) := (hg10.cell (p := ⟨w3.heap.size + 1 + 1, 1, none⟩) (by simp <;> omega)).trans (by go_simp)
      have d2 : w10.cell? ⟨w3.heap.size + 1 + 1, 2, none⟩ = some (.int .i64 0) := (hg10.cell (p := ⟨w3.heap.size + 1 + 1, 2, none⟩) (by simp <;> omega)).trans (by go_simp)
      have d3 : w10.cell? ⟨w3.heap.size + 1 + 1, 3, none⟩ = some (.int .i64 0) := (hg10.cell (p := ⟨w3.heap.size + 1 + 1, 3, none⟩) (by simp <;> omega)).trans (by go_simp)
      have d4 : w10.cell? ⟨w3.heap.size + 1 + 1, 4, none⟩ = some (.slice none 0 0) := (hg10.cell (p := ⟨w3.heap.size + 1 + 1, 4, none⟩) (by simp <;> omega)).trans (by go_simp)
      have HW10 := Lib.hid (HGC.out.modd HM10.out (fun b hb => by omega))
      clear hg10 he
      go_wp2_with fail
      refine (keepEdgeSame _ _ noE _ _ _ (HPEB.out.mod HM10.out (fun b hb => HFN.out b hb.2)) (HPB.out.mod HM10.out (fun b hb => HFN.out b (by have := hb.2; omega)))).mono ?_
      rintro e w11 ⟨rfl, hg11⟩
      have HX11 := Lib.hid (HW10.out.step hg11)
      clear hg11
      go_wp2_with fail
      refine (graphScan S1 B1 G typ _ (H1.out.grow HX11.out) HNL.out).mono ?_
      rintro e w12 ⟨vw12, ow12, rfl, how12, -, hgw12⟩
      have HOw12 := Lib.hid (how12.toR (S := fun _ => True) (fun _ _ => trivial)); have HXw12 := Lib.hid (HX11.out.step hgw12); have HYw12 := Lib.hid hgw12
      obtain ⟨oaw12, ocw12, rfl, -, -⟩ := how12.isSlice
      clear how12 hgw12
      go_wp2_with fail
      refine (refScan _ B2 G typ _ (H2.out.grow HXw12.out) HNL.out).mono ?_
      rintro e w13 ⟨vw13, ow13, rfl, how13, -, hgw13⟩
      have HOw13 := Lib.hid (how13.toR (S := fun _ => True) (fun _ _ => trivial)); have HXw13 := Lib.hid (HXw12.out.step hgw13); have HYw13 := Lib.hid hgw13
      obtain ⟨oaw13, ocw13, rfl, -, -⟩ := how13.isSlice
      clear how13 hgw13
      go_wp2_with fail
      refine (keepLongsEq (fun _ => True) (fun _ => True) _ _ (scanG G typ) _ (SlR.growS HOw12.out HYw13.out) HOw13.out).mono ?_
      rintro e w14 ⟨rfl, hg14⟩
      have HX14 := Lib.hid (HXw13.out.step hg14)
      clear hg14
      go_wp2_with fail
      refine (graphOut S1 B1 G id typ _ (H1.out.grow HX14.out) HEL.out).mono ?_
      rintro e w15 ⟨vw15, ow15, rfl, how15, -, hgw15⟩
      have HOw15 := Lib.hid (how15.toR (S := fun _ => True) (fun _ _ => trivial)); have HXw15 := Lib.hid (HX14.out.step hgw15); have HYw15 := Lib.hid hgw15
      obtain ⟨oaw15, ocw15, rfl, -, -⟩ := how15.isSlice
      clear how15 hgw15
      go_wp2_with fail
      refine (refOut _ B2 G id typ _ (H2.out.grow HXw15.out) HEL.out).mono ?_
      rintro e w16 ⟨vw16, ow16, rfl, how16, -, hgw16⟩
      have HOw16 := Lib.hid (how16.toR (S := fun _ => True) (fun _ _ => trivial)); have HXw16 := Lib.hid (HXw15.out.step hgw16); have HYw16 := Lib.hid hgw16
      obtain ⟨oaw16, ocw16, rfl, -, -⟩ := how16.isSlice
      clear how16 hgw16
      go_wp2_with fail
      refine (keepLongsEq (fun _ => True) (fun _ => True) _ _ (someE G.edges typ fun x => decide (x.from_ = id)) _ (SlR.growS HOw15.out HYw16.out) HOw16.out).mono ?_
      rintro e w17 ⟨rfl, hg17⟩
      have HX17 := Lib.hid (HXw16.out.step hg17)
      clear hg17
      go_wp2_with fail
      refine (graphIn S1 B1 G id typ _ (H1.out.grow HX17.out) HEL.out).mono ?_
      rintro e w18 ⟨vw18, ow18, rfl, how18, -, hgw18⟩
      have HOw18 := Lib.hid (how18.toR (S := fun _ => True) (fun _ _ => trivial)); have HXw18 := Lib.hid (HX17.out.step hgw18); have HYw18 := Lib.hid hgw18
      obtain ⟨oaw18, ocw18, rfl, -, -⟩ := how18.isSlice
      clear how18 hgw18
      go_wp2_with fail
      refine (refIn _ B2 G id typ _ (H2.out.grow HXw18.out) HEL.out).mono ?_
      rintro e w19 ⟨vw19, ow19, rfl, how19, -, hgw19⟩
      have HOw19 := Lib.hid (how19.toR (S := fun _ => True) (fun _ _ => trivial)); have HXw19 := Lib.hid (HXw18.out.step hgw19); have HYw19 := Lib.hid hgw19
      obtain ⟨oaw19, ocw19, rfl, -, -⟩ := how19.isSlice
      clear how19 hgw19
      go_wp2_with fail
      refine (keepLongsEq (fun _ => True) (fun _ => True) _ _ (someE G.edges typ fun x => decide (x.to_ = id)) _ (SlR.growS HOw18.out HYw19.out) HOw19.out).mono ?_
      rintro e w20 ⟨rfl, hg20⟩
      have HX20 := Lib.hid (HXw19.out.step hg20)
      clear hg20
      go_wp2
      go_ret
      exact ⟨rfl, HX20.out⟩
  · rcases hE with ⟨rfl, hE⟩ | ⟨rfl, hE⟩
    · obtain ⟨rfl, rfl⟩ := hN
      have HPA := Lib.hid (PropsR.nil (fun b => S2 b ∧ b < w.heap.size) wb)
      obtain ⟨k', rfl, hkl', hxk'⟩ := hE
      have hk0' : decide ((0 : Int) ≤ (k' : Int)) = true := by simp
      obtain ⟨bb, ob, rb, rfl, hSb, hbb, hRb, hcb⟩ := HQE.out k' xE hxk'
      have nbb : ¬ bb = w3.heap.size + 1 := by have := hSb.2; omega
      obtain ⟨pvb, hbb', b0, b1, b2, b3, b4, hpb⟩ := hRb.at hbb (Grow.rfl' _) hcb
      obtain ⟨pba, pbc, rfl⟩ := hpb.isSlice
      have HPB := Lib.hid hpb
      clear hxk' hRb hcb hbb hpb hSb
      go_wp2_with fail
      refine (keepNodeSame _ _ noN _ _ _ (HPNB.out.mod ((((((Mod.rfl' (fun b => b = w3.heap.size + 1 ∨ b = w3.heap.size + 1 + 1) wb).setd (p := ⟨w3.heap.size + 1 + 1, 0, none⟩) (.inl (.inr rfl)) _).setd (p := ⟨w3.heap.size + 1 + 1, 1, none⟩) (.inl (.inr rfl)) _).setd (p := ⟨w3.heap.size + 1 + 1, 2, none⟩) (.inl (.inr rfl)) _).setd (p := ⟨w3.heap.size + 1 + 1, 3, none⟩) (.inl (.inr rfl)) _).setd (p := ⟨w3.heap.size + 1 + 1, 4, none⟩) (.inl (.inr rfl)) _) (fun b hb => HFN.out b (by have := hb.2; omega))) (HPA.out.mod ((((((Mod.rfl' (fun b => b = w3.heap.size + 1 ∨ b = w3.heap.size + 1 + 1) wb).setd (p := ⟨w3.heap.size + 1 + 1, 0, none⟩) (.inl (.inr rfl)) _).setd (p := ⟨w3.heap.size + 1 + 1, 1, none⟩) (.inl (.inr rfl)) _).setd (p := ⟨w3.heap.size + 1 + 1, 2, none⟩) (.inl (.inr rfl)) _).setd (p := ⟨w3.heap.size + 1 + 1, 3, none⟩) (.inl (.inr rfl)) _).setd (p := ⟨w3.heap.size + 1 + 1, 4, none⟩) (.inl (.inr rfl)) _) (fun b hb => HFN.out b (by have := hb.2; omega)))).mono ?_
      rintro e w10 ⟨rfl, hg10⟩
      have HM10 := Lib.hid (Mod.step ((((((Mod.rfl' (fun b => b = w3.heap.size + 1 ∨ b = w3.heap.size + 1 + 1) wb).setd (p := ⟨w3.heap.size + 1 + 1, 0, none⟩) (.inl (.inr rfl)) _).setd (p := ⟨w3.heap.size + 1 + 1, 1, none⟩) (.inl (.inr rfl)) _).setd (p := ⟨w3.heap.size + 1 + 1, 2, none⟩) (.inl (.inr rfl)) _).setd (p := ⟨w3.heap.size + 1 + 1, 3, none⟩) (.inl (.inr rfl)) _).setd (p := ⟨w3.heap.size + 1 + 1, 4, none⟩) (.inl (.inr rfl)) _) (Mod.of_grow hg10))
      have he := (HM10.out.block w3.heap.size (by omega) (by omega)).trans HEB.out
      have le := blk_lt he
      have hs10 := HM10.out.size
      have e0 : w10.cell? ⟨w3.heap.size, 0, none⟩ = some (.int .i64 xE.id) := by rw [blk_cell he]; rfl
      have e1 : w10.cell? ⟨w3.heap.size, 1, none⟩ = some (.string xE.typ) := by rw [blk_cell he]; rfl
      have e2 : w10.cell? ⟨w3.heap.size, 2, none⟩ = some (.int .i64 xE.from_) := by rw [blk_cell he]; rfl
      have e3 : w10.cell? ⟨w3.heap.size, 3, none⟩ = some (.int .i64 xE.to_) := by rw [blk_cell he]; rfl
      have e4 : w10.cell? ⟨w3.heap.size, 4, none⟩ = some (.slice pea xE.props.length pec) := by rw [blk_cell he]; rfl
      have d0 : w10.cell? ⟨w3.heap.size + 1 + 1, 0, none⟩ = some (.int .i64 xE.id) := (hg10.cell (p := ⟨w3.heap.size + 1 + 1, 0, none⟩) (by simp <;> omega)).trans (by go_simp)
      have d1 : w10.cell? ⟨w3.heap.size + 1 + 1, 1, none⟩ = some (.string xE.typ) := (hg10.cell (p := ⟨w3.heap.size + 1 + 1, 1, none⟩) (by simp <;> omega)).trans (by go_simp)
      have d2 : w10.cell? ⟨w3.heap.size + 1 + 1, 2, none⟩ = some (.int .i64 xE.from_) := (hg10.cell (p := ⟨w3.heap.size + 1 + 1, 2, none⟩) (by simp <;> omega)).trans (by go_simp)
      have d3 : w10.cell? ⟨w3.heap.size + 1 + 1, 3, none⟩ = some (.int .i64 xE.to_) := (hg10.cell (p := ⟨w3.heap.size + 1 + 1, 3, none⟩) (by simp <;> omega)).trans (by go_simp)
      have d4 : w10.cell? ⟨w3.heap.size + 1 + 1, 4, none⟩ = some (.slice pba xE.props.length pbc) := (hg10.cell (p := ⟨w3.heap.size + 1 + 1, 4, none⟩) (by simp <;> omega)).trans (by go_simp)
      have HW10 := Lib.hid (HGC.out.modd HM10.out (fun b hb => by omega))
      clear hg10 he
      go_wp2_with fail
      refine (keepEdgeSame _ _ xE _ _ _ (HPEB.out.mod HM10.out (fun b hb => HFN.out b hb.2)) (HPB.out.mod HM10.out (fun b hb => HFN.out b (by have := hb.2; omega)))).mono ?_
      rintro e w11 ⟨rfl, hg11⟩
      have HX11 := Lib.hid (HW10.out.step hg11)
      clear hg11
      go_wp2_with fail
      refine (graphScan S1 B1 G typ _ (H1.out.grow HX11.out) HNL.out).mono ?_
      rintro e w12 ⟨vw12, ow12, rfl, how12, -, hgw12⟩
      have HOw12 := Lib.hid (how12.toR (S := fun _ => True) (fun _ _ => trivial)); have HXw12 := Lib.hid (HX11.out.step hgw12); have HYw12 := Lib.hid hgw12
      obtain ⟨oaw12, ocw12, rfl, -, -⟩ := how12.isSlice
      clear how12 hgw12
      go_wp2_with fail
      refine (refScan _ B2 G typ _ (H2.out.grow HXw12.out) HNL.out).mono ?_
      rintro e w13 ⟨vw13, ow13, rfl, how13, -, hgw13⟩
      have HOw13 := Lib.hid (how13.toR (S := fun _ => True) (fun _ _ => trivial)); have HXw13 := Lib.hid (HXw12.out.step hgw13); have HYw13 := Lib.hid hgw13
      obtain ⟨oaw13, ocw13, rfl, -, -⟩ := how13.isSlice
      clear how13 hgw13
      go_wp2_with fail
      refine (keepLongsEq (fun _ => True) (fun _ => True) _ _ (scanG G typ) _ (SlR.growS HOw12.out HYw13.out) HOw13.out).mono ?_
      rintro e w14 ⟨rfl, hg14⟩
      have HX14 := Lib.hid (HXw13.out.step hg14)
      clear hg14
      go_wp2_with fail
      refine (graphOut S1 B1 G id typ _ (H1.out.grow HX14.out) HEL.out).mono ?_
      rintro e w15 ⟨vw15, ow15, rfl, how15, -, hgw15⟩
      have HOw15 := Lib.hid (how15.toR (S := fun _ => True) (fun _ _ => trivial)); have HXw15 := Lib.hid (HX14.out.step hgw15); have HYw15 := Lib.hid hgw15
      obtain ⟨oaw15, ocw15, rfl, -, -⟩ := how15.isSlice
      clear how15 hgw15
      go_wp2_with fail
      refine (refOut _ B2 G id typ _ (H2.out.grow HXw15.out) HEL.out).mono ?_
      rintro e w16 ⟨vw16, ow16, rfl, how16, -, hgw16⟩
      have HOw16 := Lib.hid (how16.toR (S := fun _ => True) (fun _ _ => trivial)); have HXw16 := Lib.hid (HXw15.out.step hgw16); have HYw16 := Lib.hid hgw16
      obtain ⟨oaw16, ocw16, rfl, -, -⟩ := how16.isSlice
      clear how16 hgw16
      go_wp2_with fail
      refine (keepLongsEq (fun _ => True) (fun _ => True) _ _ (someE G.edges typ fun x => decide (x.from_ = id)) _ (SlR.growS HOw15.out HYw16.out) HOw16.out).mono ?_
      rintro e w17 ⟨rfl, hg17⟩
      have HX17 := Lib.hid (HXw16.out.step hg17)
      clear hg17
      go_wp2_with fail
      refine (graphIn S1 B1 G id typ _ (H1.out.grow HX17.out) HEL.out).mono ?_
      rintro e w18 ⟨vw18, ow18, rfl, how18, -, hgw18⟩
      have HOw18 := Lib.hid (how18.toR (S := fun _ => True) (fun _ _ => trivial)); have HXw18 := Lib.hid (HX17.out.step hgw18); have HYw18 := Lib.hid hgw18
      obtain ⟨oaw18, ocw18, rfl, -, -⟩ := how18.isSlice
      clear how18 hgw18
      go_wp2_with fail
      refine (refIn _ B2 G id typ _ (H2.out.grow HXw18.out) HEL.out).mono ?_
      rintro e w19 ⟨vw19, ow19, rfl, how19, -, hgw19⟩
      have HOw19 := Lib.hid (how19.toR (S := fun _ => True) (fun _ _ => trivial)); have HXw19 := Lib.hid (HXw18.out.step hgw19); have HYw19 := Lib.hid hgw19
      obtain ⟨oaw19, ocw19, rfl, -, -⟩ := how19.isSlice
      clear how19 hgw19
      go_wp2_with fail
      refine (keepLongsEq (fun _ => True) (fun _ => True) _ _ (someE G.edges typ fun x => decide (x.to_ = id)) _ (SlR.growS HOw18.out HYw19.out) HOw19.out).mono ?_
      rintro e w20 ⟨rfl, hg20⟩
      have HX20 := Lib.hid (HXw19.out.step hg20)
      clear hg20
      go_wp2
      go_ret
      exact ⟨rfl, HX20.out⟩
    · obtain ⟨rfl, rfl⟩ := hN
      have HPA := Lib.hid (PropsR.nil (fun b => S2 b ∧ b < w.heap.size) wb)
      obtain ⟨rfl, rfl⟩ := hE
      have HPB := Lib.hid (PropsR.nil (fun b => S2 b ∧ b < w.heap.size) wb)
      go_wp2_with fail
      refine (keepNodeSame _ _ noN _ _ _ (HPNB.out.mod (Mod.rfl' (fun b => b = w3.heap.size + 1 ∨ b = w3.heap.size + 1 + 1) wb) (fun b hb => HFN.out b (by have := hb.2; omega))) (HPA.out.mod (Mod.rfl' (fun b => b = w3.heap.size + 1 ∨ b = w3.heap.size + 1 + 1) wb) (fun b hb => HFN.out b (by have := hb.2; omega)))).mono ?_
      rintro e w10 ⟨rfl, hg10⟩
      have HM10 := Lib.hid (Mod.step (Mod.rfl' (fun b => b = w3.heap.size + 1 ∨ b = w3.heap.size + 1 + 1) wb) (Mod.of_grow hg10))
      have he := (HM10.out.block w3.heap.size (by omega) (by omega)).trans HEB.out
      have le := blk_lt he
      have hs10 := HM10.out.size
      have e0 : w10.cell? ⟨w3.heap.size, 0, none⟩ = some (.int .i64 noE.id) := by rw [blk_cell he]; rfl
      have e1 : w10.cell? ⟨w3.heap.size, 1, none⟩ = some (.string noE.typ) := by rw [blk_cell he]; rfl
      have e2 : w10.cell? ⟨w3.heap.size, 2, none⟩ = some (.int .i64 noE.from_) := by rw [blk_cell he]; rfl
      have e3 : w10.cell? ⟨w3.heap.size, 3, none⟩ = some (.int .i64 noE.to_) := by rw [blk_cell he]; rfl
      have e4 : w10.cell? ⟨w3.heap.size, 4, none⟩ = some (.slice pea noE.props.length pec) := by rw [blk_cell he]; rfl
      have d0 : w10.cell? ⟨w3.heap.size + 1 + 1, 0, none⟩ = some (.int .i64 0) := (hg10.cell (p := ⟨w3.heap.size + 1 + 1, 0, none⟩) (by simp <;> omega)).trans (by go_simp)
      have d1 : w10.cell? ⟨w3.heap.size + 1 + 1, 1, none⟩ = some (.string ByteArray.empty) := (hg10.cell (p := ⟨w3.heap.size + 1 + 1, 1, none⟩) (by simp <;> omega)).trans (by go_simp)
      have d2 : w10.cell? ⟨w3.heap.size + 1 + 1, 2, none⟩ = some (.int .i64 0) := (hg10.cell (p := ⟨w3.heap.size + 1 + 1, 2, none⟩) (by simp <;> omega)).trans (by go_simp)
      have d3 : w10.cell? ⟨w3.heap.size + 1 + 1, 3, none⟩ = some (.int .i64 0) := (hg10.cell (p := ⟨w3.heap.size + 1 + 1, 3, none⟩) (by simp <;> omega)).trans (by go_simp)
      have d4 : w10.cell? ⟨w3.heap.size + 1 + 1, 4, none⟩ = some (.slice none 0 0) := (hg10.cell (p := ⟨w3.heap.size + 1 + 1, 4, none⟩) (by simp <;> omega)).trans (by go_simp)
      have HW10 := Lib.hid (HGC.out.modd HM10.out (fun b hb => by omega))
      clear hg10 he
      go_wp2_with fail
      refine (keepEdgeSame _ _ noE _ _ _ (HPEB.out.mod HM10.out (fun b hb => HFN.out b hb.2)) (HPB.out.mod HM10.out (fun b hb => HFN.out b (by have := hb.2; omega)))).mono ?_
      rintro e w11 ⟨rfl, hg11⟩
      have HX11 := Lib.hid (HW10.out.step hg11)
      clear hg11
      go_wp2_with fail
      refine (graphScan S1 B1 G typ _ (H1.out.grow HX11.out) HNL.out).mono ?_
      rintro e w12 ⟨vw12, ow12, rfl, how12, -, hgw12⟩
      have HOw12 := Lib.hid (how12.toR (S := fun _ => True) (fun _ _ => trivial)); have HXw12 := Lib.hid (HX11.out.step hgw12); have HYw12 := Lib.hid hgw12
      obtain ⟨oaw12, ocw12, rfl, -, -⟩ := how12.isSlice
      clear how12 hgw12
      go_wp2_with fail
      refine (refScan _ B2 G typ _ (H2.out.grow HXw12.out) HNL.out).mono ?_
      rintro e w13 ⟨vw13, ow13, rfl, how13, -, hgw13⟩
      have HOw13 := Lib.hid (how13.toR (S := fun _ => True) (fun _ _ => trivial)); have HXw13 := Lib.hid (HXw12.out.step hgw13); have HYw13 := Lib.hid hgw13
      obtain ⟨oaw13, ocw13, rfl, -, -⟩ := how13.isSlice
      clear how13 hgw13
      go_wp2_with fail
      refine (keepLongsEq (fun _ => True) (fun _ => True) _ _ (scanG G typ) _ (SlR.growS HOw12.out HYw13.out) HOw13.out).mono ?_
      rintro e w14 ⟨rfl, hg14⟩
      have HX14 := Lib.hid (HXw13.out.step hg14)
      clear hg14
      go_wp2_with fail
      refine (graphOut S1 B1 G id typ _ (H1.out.grow HX14.out) HEL.out).mono ?_
      rintro e w15 ⟨vw15, ow15, rfl, how15, -, hgw15⟩
      have HOw15 := Lib.hid (how15.toR (S := fun _ => True) (fun _ _ => trivial)); have HXw15 := Lib.hid (HX14.out.step hgw15); have HYw15 := Lib.hid hgw15
      obtain ⟨oaw15, ocw15, rfl, -, -⟩ := how15.isSlice
      clear how15 hgw15
      go_wp2_with fail
      refine (refOut _ B2 G id typ _ (H2.out.grow HXw15.out) HEL.out).mono ?_
      rintro e w16 ⟨vw16, ow16, rfl, how16, -, hgw16⟩
      have HOw16 := Lib.hid (how16.toR (S := fun _ => True) (fun _ _ => trivial)); have HXw16 := Lib.hid (HXw15.out.step hgw16); have HYw16 := Lib.hid hgw16
      obtain ⟨oaw16, ocw16, rfl, -, -⟩ := how16.isSlice
      clear how16 hgw16
      go_wp2_with fail
      refine (keepLongsEq (fun _ => True) (fun _ => True) _ _ (someE G.edges typ fun x => decide (x.from_ = id)) _ (SlR.growS HOw15.out HYw16.out) HOw16.out).mono ?_
      rintro e w17 ⟨rfl, hg17⟩
      have HX17 := Lib.hid (HXw16.out.step hg17)
      clear hg17
      go_wp2_with fail
      refine (graphIn S1 B1 G id typ _ (H1.out.grow HX17.out) HEL.out).mono ?_
      rintro e w18 ⟨vw18, ow18, rfl, how18, -, hgw18⟩
      have HOw18 := Lib.hid (how18.toR (S := fun _ => True) (fun _ _ => trivial)); have HXw18 := Lib.hid (HX17.out.step hgw18); have HYw18 := Lib.hid hgw18
      obtain ⟨oaw18, ocw18, rfl, -, -⟩ := how18.isSlice
      clear how18 hgw18
      go_wp2_with fail
      refine (refIn _ B2 G id typ _ (H2.out.grow HXw18.out) HEL.out).mono ?_
      rintro e w19 ⟨vw19, ow19, rfl, how19, -, hgw19⟩
      have HOw19 := Lib.hid (how19.toR (S := fun _ => True) (fun _ _ => trivial)); have HXw19 := Lib.hid (HXw18.out.step hgw19); have HYw19 := Lib.hid hgw19
      obtain ⟨oaw19, ocw19, rfl, -, -⟩ := how19.isSlice
      clear how19 hgw19
      go_wp2_with fail
      refine (keepLongsEq (fun _ => True) (fun _ => True) _ _ (someE G.edges typ fun x => decide (x.to_ = id)) _ (SlR.growS HOw18.out HYw19.out) HOw19.out).mono ?_
      rintro e w20 ⟨rfl, hg20⟩
      have HX20 := Lib.hid (HXw19.out.step hg20)
      clear hg20
      go_wp2
      go_ret
      exact ⟨rfl, HX20.out⟩
end Go.Hg
