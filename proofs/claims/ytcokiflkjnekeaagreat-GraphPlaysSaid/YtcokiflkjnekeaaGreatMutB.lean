/- graph.dropNode, dropEdge. No condition but a graph's own. -/
import Derived.Test.YtcokiflkjnekeaaGreatMutA
namespace Go.Hg
open Go.RowKit Go.Proofs

theorem flat_cut {α : Type} {rows : List (List α)} {sz : Nat} (h : ∀ r ∈ rows, r.length = sz) {i : Nat} (hi : i ≤ rows.length) : rows.flatten.take (i * sz) = (rows.take i).flatten ∧ rows.flatten.drop (i * sz) = (rows.drop i).flatten := by
  have h1 : rows.flatten = (rows.take i).flatten ++ (rows.drop i).flatten := by rw [← List.flatten_append, List.take_append_drop]
  have h2 : (rows.take i).flatten.length = i * sz := by
    rw [flatten_len _ sz (fun r hr => h r (List.mem_of_mem_take hr)), List.length_take]
    congr 1
    omega
  rw [h1, ← h2, List.take_left, List.drop_left]
  exact ⟨rfl, rfl⟩
theorem OwnL.erase {α : Type} {w' : World} {E : TypeId} {sz : Nat} {R R' : α → List Value → Prop} {v' : Value} {l : List α} {ob : Option Nat} {rows : List (List Value)} {i : Nat} (r1 : rows.length = l.length) (r2 : ∀ r ∈ rows, r.length = sz)
    (r3 : ∀ (k : Nat) x r, l[k]? = some x → rows[k]? = some r → R x r ∧ r.length = sz) (hR : ∀ x r, x ∈ l → R x r → R' x r) (hi : i < l.length) (k : OwnS w' E sz v' (l.length - 1) (rows.flatten.take (i * sz) ++ rows.flatten.drop ((i + 1) * sz)) ob) :
    OwnL w' E sz R' v' (l.take i ++ l.drop (i + 1)) ob := by
  have hlen : (l.take i ++ l.drop (i + 1)).length = l.length - 1 := by rw [List.length_append, List.length_take, List.length_drop]; omega
  refine ⟨rows.take i ++ rows.drop (i + 1), by rw [hlen, List.length_append, List.length_take, List.length_drop]; omega, fun j x r hj hr => ?_, ?_⟩
  · have hti : (l.take i).length = i := by rw [List.length_take]; omega
    have htr : (rows.take i).length = i := by rw [List.length_take]; omega
    by_cases hji : j < i
    · rw [List.getElem?_append_left (by omega), List.getElem?_take, if_pos hji] at hj hr
      exact ⟨hR _ _ (List.mem_of_getElem? hj) (r3 j x r hj hr).1, (r3 j x r hj hr).2⟩
    · rw [List.getElem?_append_right (by omega), hti, List.getElem?_drop] at hj
      rw [List.getElem?_append_right (by omega), htr, List.getElem?_drop] at hr
      exact ⟨hR _ _ (List.mem_of_getElem? hj) (r3 _ x r hj hr).1, (r3 _ x r hj hr).2⟩
  · rw [hlen, List.flatten_append, ← (flat_cut r2 (i := i) (by omega)).1, ← (flat_cut r2 (i := i + 1) (by omega)).2]
    exact k
theorem OwnL.one_flatN {R : Nat → Prop} {w : World} {l : List PNode} {rows : List (List Value)} (r1 : rows.length = l.length) (r3 : ∀ (k : Nat) x r, l[k]? = some x → rows[k]? = some r → RNode R w x r ∧ r.length = 3) : ∀ u ∈ rows.flatten, u.oneCell' = true := by
  intro u hu
  obtain ⟨r, hr, hur⟩ := List.mem_flatten.1 hu
  obtain ⟨k, hk⟩ := List.getElem?_of_mem hr
  have hlt : k < l.length := by have := (List.getElem?_eq_some_iff.1 hk).1; omega
  exact (r3 k _ r (List.getElem?_eq_getElem hlt) hk).1.one u hur
theorem OwnL.one_flatE {R : Nat → Prop} {w : World} {l : List PEdge} {rows : List (List Value)} (r1 : rows.length = l.length) (r3 : ∀ (k : Nat) x r, l[k]? = some x → rows[k]? = some r → REdge R w x r ∧ r.length = 5) : ∀ u ∈ rows.flatten, u.oneCell' = true := by
  intro u hu
  obtain ⟨r, hr, hur⟩ := List.mem_flatten.1 hu
  obtain ⟨k, hk⟩ := List.getElem?_of_mem hr
  have hlt : k < l.length := by have := (List.getElem?_eq_some_iff.1 hk).1; omega
  exact (r3 k _ r (List.getElem?_eq_getElem hlt) hk).1.one u hur

set_option maxRecDepth 100000 in
set_option maxHeartbeats 2000000 in
theorem dropNode (S : Nat → Prop) (B : Nat) (G : PGraph) (o : POp) (w : World) (h : GraphOk 68 S w B G) (hG : GInv G) (hn : hasN G o.id = true) :
    Calls Tryz.prog 52 #[.pointer (some ⟨B, 0, none⟩), o.args] w fun e w' => e = .returned (.int .i64 0) ∧ GraphOk 68 S w' B (dropNodeG o G) ∧ Mod S w w' := by
  have HGR := Lib.hid h
  obtain ⟨nv, ev, R, on, oe, h1, h2, h3, h4, h5, h6, h7, h8⟩ := h.parts (by decide) (by decide)
  have H2 := Lib.hid h2; have H3 := Lib.hid h3; have H4 := Lib.hid h4; have H5 := Lib.hid h5; have H6 := Lib.hid h6; have H7 := Lib.hid h7; have H8 := Lib.hid h8
  have HI := Lib.hid hG; have HN := Lib.hid hn
  have HW := Lib.hid (show ∀ o1, Grow w (w.alloc o1) from fun o1 => (Grow.rfl' w).allocd o1)
  have HOP := Lib.hid (show OpAt (w.alloc (.cells o.cells.toArray 41)) w.heap.size o from heap_alloc_new w _)
  have HB0 := Lib.hid h1
  have hBs : B < w.heap.size := blk_lt h1
  clear h h2 h3 h4 h5 h6 h7 h8 hG h1 hn
  go_enter Tryz.func52, Tryz.ntmps52
  go_wp2_with fail
  refine (graphNode_ S B G o.id _ (HGR.out.grow (HW.out _)) HI.out).mono ?_
  rintro e w2 ⟨i, b, rfl, hb, hg⟩
  obtain rfl : b = true := by
    have e := idx_any (fun x : PNode => x.id) hb
    rw [e]; exact HN.out
  obtain ⟨x, hx, hxi⟩ := idx_at (fun x : PNode => x.id) hb
  have hil : i < G.nodes.length := (List.getElem?_eq_some_iff.1 hx).1
  have HX := Lib.hid hx; have HXI := Lib.hid hxi
  have HG2 := Lib.hid ((HW.out _).step hg)
  have HOP2 := Lib.hid (HOP.out.grow hg)
  have HB2 := Lib.hid ((HG2.out.heapEq hBs).trans HB0.out)
  clear hb hg hx hxi
  obtain ⟨rows, hr1, hr2, hr3, hos⟩ := H7.out.rowLen
  have HR2 := Lib.hid hr2; have HR3 := Lib.hid hr3; have HR1 := Lib.hid hr1
  have HOS := Lib.hid (hos.grow HG2.out)
  obtain ⟨oa, cap, rfl, -, -⟩ := hos.isSlice
  clear hr1 hr2 hr3 hos
  have HLN := Lib.hid HI.out.items
  have hB2 : B < w2.heap.size := blk_lt HB2.out
  have g0 : w2.cell? ⟨B, 0, none⟩ = some (.slice oa G.nodes.length cap) := by rw [blk_cell HB2.out]; rfl
  have hw1 : IntKind.i64.wrap ((i : Int) + 1) = (i : Int) + 1 := by have := HLN.out; rw [IntKind.wrap_i64]; omega
  go_wp2_with fail
  refine (deleteNode _ G.nodes.length rows.flatten on i _ HOS.out (by have := HLN.out; omega) hil (OwnL.one_flatN HR1.out HR3.out)).mono ?_
  rintro e w3 ⟨v3, rfl, hos3, hm3⟩
  obtain ⟨oa3, cap3, rfl, -, -⟩ := hos3.isSlice
  have HOS3 := Lib.hid hos3; have HM3 := Lib.hid hm3
  have HB3 := Lib.hid ((hm3.block B hB2 (fun hh => (H5.out B hh).2.2.1 rfl)).trans HB2.out)
  have hB3 : B < w3.heap.size := blk_lt HB3.out
  have g03 : w3.cell? ⟨B, 0, none⟩ = some (.slice oa G.nodes.length cap) := by rw [blk_cell HB3.out]; rfl
  have f03 := blk_free HB3.out 0
  have HM03 := Lib.hid (show Mod (fun b => b = B ∨ on = some b) w w3 from (Mod.of_grow HG2.out).step (hm3.mono (fun _ h => .inr h)))
  obtain ⟨ea, ec, rfl⟩ : ∃ ea ec, ev = .slice ea G.edges.length ec := by obtain ⟨_, _, _, h⟩ := H8.out; obtain ⟨oa, cap, h, _⟩ := h.isSlice; exact ⟨oa, cap, h⟩
  have g13 : w3.cell? ⟨B, 1, none⟩ = some (.slice ea G.edges.length ec) := by rw [blk_cell HB3.out]; rfl
  have HM04 := Lib.hid (show Mod (fun b => b = B ∨ on = some b) w (w3.setCell ⟨B, 0, none⟩ (.slice oa3 (G.nodes.length - 1) cap3)) from HM03.out.setd (p := ⟨B, 0, none⟩) (.inl (.inl rfl)) _)
  have HOP4 := Lib.hid (show OpAt (w3.setCell ⟨B, 0, none⟩ (.slice oa3 (G.nodes.length - 1) cap3)) w.heap.size o from
    (HOP2.out.mod HM3.out (fun hh => by have := (H5.out _ hh).2.2.2.1; omega)).mod ((Mod.rfl' (fun b => b = B) w3).setd (p := ⟨B, 0, none⟩) (.inl rfl) _) (by omega))
  have hRm : ∀ b, R b → ¬ (b = B ∨ on = some b) := fun b hb h => h.elim (fun e => H3.out (e ▸ hb)) (fun e => (H5.out b e).2.1 hb)
  have HRM := Lib.hid hRm
  clear hos3 hm3 hRm
  go_wp2_with fail
  have HE4 := Lib.hid (H8.out.edgesMod HM04.out (fun g hg h => h.elim (H6.out g hg).2.2.1 (H6.out g hg).2.2.2.2) HRM.out)
  refine (deleteEdges R _ G.edges oe 80 ⟨w.heap.size, 0, none⟩ (fun x => atE x o.id) _ HE4.out (fun g hg => (H6.out g hg).2.1) ⟨fun args w => enterF Tryz.func80 (by kernel_rfl) rfl args w, fun S x pv w' hm hp => dropNode1 x pv _ o.id w' S hp (HOP4.out.mod hm (fun hh => by have := (H6.out _ hh).2.2.2.1; omega)).at.2.2.1⟩ (by have := HLN.out; omega)).mono ?_
  rintro e w5 ⟨v5, rfl, hos5, hm5⟩
  have HB4 := Lib.hid (show (w3.setCell ⟨B, 0, none⟩ (.slice oa3 (G.nodes.length - 1) cap3)).heap[B]? = some (.cells #[.slice oa3 (G.nodes.length - 1) cap3, .slice ea G.edges.length ec, .int .i64 G.next] 68 (0, 0)) from heap_setCell_same w3 B 0 _ _ _ HB3.out)
  have HB5 := Lib.hid ((hm5.block B (by simpa using hB3) (fun hh => (H6.out B hh).2.2.1 rfl)).trans HB4.out)
  obtain ⟨ea5, ec5, rfl⟩ : ∃ ea ec, v5 = .slice ea (G.edges.filter fun x => !atE x o.id).length ec := by obtain ⟨_, _, _, h⟩ := hos5; obtain ⟨oa, cap, h, _⟩ := h.isSlice; exact ⟨oa, cap, h⟩
  have hB5 : B < w5.heap.size := blk_lt HB5.out
  have g15 : w5.cell? ⟨B, 1, none⟩ = some (.slice ea G.edges.length ec) := by rw [blk_cell HB5.out]; rfl
  have f15 := blk_free HB5.out 1
  have HOS5 := Lib.hid hos5; have HM5 := Lib.hid hm5
  clear hos5 hm5 g13 g03 f03 g0
  go_wp2
  go_ret
  have m56 : Mod (fun b => b = B ∨ oe = some b) (w3.setCell ⟨B, 0, none⟩ (.slice oa3 (G.nodes.length - 1) cap3)) (w5.setCell ⟨B, 1, none⟩ (.slice ea5 (G.edges.filter fun x => !atE x o.id).length ec5)) := (HM5.out.mono (fun _ h => .inr h)).setd (p := ⟨B, 1, none⟩) (.inl (.inl rfl)) _
  have m6 : Mod (fun b => b = B ∨ on = some b ∨ oe = some b) w (w5.setCell ⟨B, 1, none⟩ (.slice ea5 (G.edges.filter fun x => !atE x o.id).length ec5)) :=
    (HM04.out.mono (fun _ h => h.imp id .inl)).step (m56.mono (fun _ h => h.imp id .inr))
  have hR6 : ∀ b, R b → ¬ (b = B ∨ on = some b ∨ oe = some b) := fun b hb h => h.elim (fun e => H3.out (e ▸ hb)) (fun h => h.elim (fun e => (H5.out b e).2.1 hb) (fun e => (H6.out b e).2.1 hb))
  refine ⟨rfl, ⟨.slice oa3 (G.nodes.length - 1) cap3, _, R, on, oe, heap_setCell_same w5 B 1 _ _ _ HB5.out, H2.out, H3.out, fun b hb => ⟨(H4.out b hb).1, Nat.lt_of_lt_of_le (H4.out b hb).2 m6.size⟩, fun g hg => ⟨(H5.out g hg).1, (H5.out g hg).2.1⟩, fun g hg => ⟨(H6.out g hg).1, (H6.out g hg).2.1⟩, ?_, ?_⟩,
    m6.mono (fun b hb => hb.elim (fun e => e ▸ H2.out) (fun h => h.elim (fun e => (H5.out b e).1) (fun e => (H6.out b e).1)))⟩
  · show OwnL _ _ _ _ _ (G.nodes.filter fun x => !decide (x.id = o.id)) _
    rw [filter_idx (fun x : PNode => x.id) HI.out.nodes HX.out HXI.out]
    refine OwnL.erase HR1.out HR2.out HR3.out (fun x r _ hR => hR.mod m6 hR6) hil ?_
    have hk := HOS3.out.keep (w' := w3.setCell ⟨B, 0, none⟩ (.slice oa3 (G.nodes.length - 1) cap3)) (fun g hg => ((Mod.rfl' (fun b => b = B) w3).setd (p := ⟨B, 0, none⟩) (.inl rfl) _).block g (HOS3.out.lt g hg) (H5.out g hg).2.2.1)
    exact hk.keep (fun g hg => m56.block g (hk.lt g hg) (fun h => h.elim (H5.out g hg).2.2.1 (H5.out g hg).2.2.2.2))
  · exact HOS5.out.edgesMod ((Mod.rfl' (fun b => b = B) w5).setd (p := ⟨B, 1, none⟩) (.inl rfl) _) (fun g hg => (H6.out g hg).2.2.1) (fun b hb e => H3.out (e ▸ hb))

set_option maxRecDepth 100000 in
set_option maxHeartbeats 2000000 in
theorem dropEdge (S : Nat → Prop) (B : Nat) (G : PGraph) (o : POp) (w : World) (h : GraphOk 68 S w B G) (hG : GInv G) (hn : hasE G o.id = true) :
    Calls Tryz.prog 56 #[.pointer (some ⟨B, 0, none⟩), o.args] w fun e w' => e = .returned (.int .i64 0) ∧ GraphOk 68 S w' B (dropEdgeG o G) ∧ Mod S w w' := by
  have HGR := Lib.hid h
  obtain ⟨nv, ev, R, on, oe, h1, h2, h3, h4, h5, h6, h7, h8⟩ := h.parts (by decide) (by decide)
  have H2 := Lib.hid h2; have H3 := Lib.hid h3; have H4 := Lib.hid h4; have H5 := Lib.hid h5; have H6 := Lib.hid h6; have H7 := Lib.hid h7; have H8 := Lib.hid h8
  have HI := Lib.hid hG; have HN := Lib.hid hn
  have HW := Lib.hid (show ∀ o1, Grow w (w.alloc o1) from fun o1 => (Grow.rfl' w).allocd o1)
  have HB0 := Lib.hid h1
  have hBs : B < w.heap.size := blk_lt h1
  clear h h2 h3 h4 h5 h6 h7 h8 hG h1 hn
  go_enter Tryz.func56, Tryz.ntmps56
  go_wp2_with fail
  refine (graphEdge_ S B G o.id _ (HGR.out.grow (HW.out _)) HI.out).mono ?_
  rintro e w2 ⟨i, b, rfl, hb, hg⟩
  obtain rfl : b = true := by
    have e := idx_any (fun x : PEdge => x.id) hb
    rw [e]; exact HN.out
  obtain ⟨x, hx, hxi⟩ := idx_at (fun x : PEdge => x.id) hb
  have hil : i < G.edges.length := (List.getElem?_eq_some_iff.1 hx).1
  have HX := Lib.hid hx; have HXI := Lib.hid hxi
  have HG2 := Lib.hid ((HW.out _).step hg)
  have HB2 := Lib.hid ((HG2.out.heapEq hBs).trans HB0.out)
  clear hb hg hx hxi
  obtain ⟨rows, hr1, hr2, hr3, hos⟩ := H8.out.rowLen
  have HR2 := Lib.hid hr2; have HR3 := Lib.hid hr3; have HR1 := Lib.hid hr1
  have HOS := Lib.hid (hos.grow HG2.out)
  obtain ⟨oa, cap, rfl, -, -⟩ := hos.isSlice
  clear hr1 hr2 hr3 hos
  have HLN := Lib.hid HI.out.items
  have hB2 : B < w2.heap.size := blk_lt HB2.out
  have g0 : w2.cell? ⟨B, 1, none⟩ = some (.slice oa G.edges.length cap) := by rw [blk_cell HB2.out]; rfl
  have hw1 : IntKind.i64.wrap ((i : Int) + 1) = (i : Int) + 1 := by have := HLN.out; rw [IntKind.wrap_i64]; omega
  go_wp2_with fail
  refine (deleteEdge _ G.edges.length rows.flatten oe i _ HOS.out (by have := HLN.out; omega) hil (OwnL.one_flatE HR1.out HR3.out)).mono ?_
  rintro e w3 ⟨v3, rfl, hos3, hm3⟩
  obtain ⟨oa3, cap3, rfl, -, -⟩ := hos3.isSlice
  have HOS3 := Lib.hid hos3; have HM3 := Lib.hid hm3
  have HB3 := Lib.hid ((hm3.block B hB2 (fun hh => (H6.out B hh).2.2.1 rfl)).trans HB2.out)
  have hB3 : B < w3.heap.size := blk_lt HB3.out
  have g03 : w3.cell? ⟨B, 1, none⟩ = some (.slice oa G.edges.length cap) := by rw [blk_cell HB3.out]; rfl
  have f03 := blk_free HB3.out 1
  clear hos3 hm3
  go_wp2
  go_ret
  have m34 : Mod (fun b => b = B) w3 (w3.setCell ⟨B, 1, none⟩ (.slice oa3 (G.edges.length - 1) cap3)) := (Mod.rfl' (fun b => b = B) w3).setd (p := ⟨B, 1, none⟩) (.inl rfl) _
  have m6 : Mod (fun b => b = B ∨ oe = some b) w (w3.setCell ⟨B, 1, none⟩ (.slice oa3 (G.edges.length - 1) cap3)) :=
    ((Mod.of_grow HG2.out).step (HM3.out.mono (fun _ h => .inr h))).step (m34.mono (fun _ h => .inl h))
  have hR6 : ∀ b, R b → ¬ (b = B ∨ oe = some b) := fun b hb h => h.elim (fun e => H3.out (e ▸ hb)) (fun e => (H6.out b e).2.1 hb)
  refine ⟨rfl, ⟨nv, .slice oa3 (G.edges.length - 1) cap3, R, on, oe, heap_setCell_same w3 B 1 _ _ _ HB3.out, H2.out, H3.out, fun b hb => ⟨(H4.out b hb).1, Nat.lt_of_lt_of_le (H4.out b hb).2 m6.size⟩, fun g hg => ⟨(H5.out g hg).1, (H5.out g hg).2.1⟩, fun g hg => ⟨(H6.out g hg).1, (H6.out g hg).2.1⟩, ?_, ?_⟩,
    m6.mono (fun b hb => hb.elim (fun e => e ▸ H2.out) (fun e => (H6.out b e).1))⟩
  · exact H7.out.nodesMod m6 (fun g hg h => h.elim (H5.out g hg).2.2.1 (H5.out g hg).2.2.2.2) hR6
  · show OwnL _ _ _ _ _ (G.edges.filter fun x => !decide (x.id = o.id)) _
    rw [filter_idx (fun x : PEdge => x.id) HI.out.edges HX.out HXI.out]
    refine OwnL.erase HR1.out HR2.out HR3.out (fun x r _ hR => hR.mod m6 hR6) hil ?_
    exact HOS3.out.keep (fun g hg => m34.block g (HOS3.out.lt g hg) (H6.out g hg).2.2.1)
end Go.Hg
