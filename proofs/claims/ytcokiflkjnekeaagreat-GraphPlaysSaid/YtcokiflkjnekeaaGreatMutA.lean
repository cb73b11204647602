/- graph.addNode, addEdge. No condition but a graph's own. -/
import Derived.Test.YtcokiflkjnekeaaGreatMayA
import Derived.Test.YtcokiflkjnekeaaGreatDelF
namespace Go.Hg
open Go.RowKit Go.Proofs

theorem step_append_S {P : Program} {ops : Array Oper} {o : Oper} {a : Act} {w : World} {K : Act → World → Prop} {Q : Exit → Act → World → Prop} {E : Prop} (hgd : o.guard = none) (s x : Operand) (t : TypeId)
    (ho : o.op = .call { callee := .builtin .append, args := #[s, x], argTypes := #[t, t] })
    (e : TypeId) (i : TypeInfo) (z : Value) (size bytes : Nat) (ht : P.underlying t = some (.slice e)) (hi : P.info? e = some i) (hz : i.zero = some z)
    (hsize : i.size = size) (hby : i.bytes = bytes) (hzs : z.cells.size = size) (hsz : 0 < size)
    (v : Value) (n : Nat) (xs : List Value) (ob : Option Nat) (hs : a.eval s = v) (hown : OwnS w e size v n xs ob)
    (xv : Value) (hxv : a.eval x = xv) (m : Nat) (news : List Value) (hx : Rd w size xv m news) (h1 : ∀ u ∈ news, u.oneCell' = true)
    (h63 : n + m ≤ maxLen) (hbytes : (n + m) * bytes ≤ 140737488355328)
    (h : ∀ v' w' ob', OwnS w' e size v' (n + m) (xs ++ news) ob' → Mod (fun k => ob = some k) w w' → (ob' = ob ∨ ∃ g, ob' = some g ∧ w.heap.size ≤ g) → (m = 0 → v' = v) → K (a.put o.dst v') w') :
    if Region.wanted o (yielded ops a.tmps) = true then Oper.wp P o a w K Q else E := by
  have hw : Region.wanted o (yielded ops a.tmps) = true := by simp [Region.wanted, hgd]
  rw [if_pos hw]
  exact wp_append_S w s x t ho e i z size bytes ht hi hz hsize hby hzs hsz v n xs ob hs hown xv hxv m news hx h1 h63 hbytes h

theorem PropsR.nil (S : Nat → Prop) (w : World) : PropsR S w (.slice none 0 0) [] := (OwnL.nil w 101 4 RProp).toSl (by simp)

/-- a graph taken apart -/
theorem GraphOk.parts {T : TypeId} {S : Nat → Prop} {w : World} {B : Nat} {G : PGraph} (h : GraphOk T S w B G) (hn : T ≠ 59) (he : T ≠ 79) :
    ∃ (nv ev : Value) (R : Nat → Prop) (on oe : Option Nat), w.heap[B]? = some (.cells #[nv, ev, .int .i64 G.next] T (0, 0)) ∧ S B ∧ ¬ R B ∧ (∀ b, R b → S b ∧ b < w.heap.size) ∧
    (∀ g, on = some g → S g ∧ ¬ R g ∧ g ≠ B ∧ g < w.heap.size ∧ oe ≠ some g) ∧ (∀ g, oe = some g → S g ∧ ¬ R g ∧ g ≠ B ∧ g < w.heap.size ∧ on ≠ some g) ∧ OwnL w 59 3 (RNode R w) nv G.nodes on ∧ OwnL w 79 5 (REdge R w) ev G.edges oe := by
  obtain ⟨nv, ev, R, on, oe, h1, h2, h3, h4, h5, h6, h7, h8⟩ := h
  refine ⟨nv, ev, R, on, oe, h1, h2, h3, h4, fun g hg => ⟨(h5 g hg).1, (h5 g hg).2, ?_, h7.lt g hg, ?_⟩, fun g hg => ⟨(h6 g hg).1, (h6 g hg).2, ?_, h8.lt g hg, ?_⟩, h7, h8⟩
  · rintro rfl
    obtain ⟨cs, hcs⟩ := h7.blkE _ hg
    rw [h1] at hcs
    simp only [Option.some.injEq, Obj.cells.injEq] at hcs
    exact hn hcs.2.1
  · intro hg'
    obtain ⟨cs, hcs⟩ := h7.blkE _ hg
    obtain ⟨cs', hcs'⟩ := h8.blkE _ hg'
    rw [hcs] at hcs'
    simp only [Option.some.injEq, Obj.cells.injEq] at hcs'
    exact absurd hcs'.2.1 (by decide)
  · rintro rfl
    obtain ⟨cs, hcs⟩ := h8.blkE _ hg
    rw [h1] at hcs
    simp only [Option.some.injEq, Obj.cells.injEq] at hcs
    exact he hcs.2.1
  · intro hg'
    obtain ⟨cs, hcs⟩ := h8.blkE _ hg
    obtain ⟨cs', hcs'⟩ := h7.blkE _ hg'
    rw [hcs] at hcs'
    simp only [Option.some.injEq, Obj.cells.injEq] at hcs'
    exact absurd hcs'.2.1 (by decide)
/-- rows keep where none of their blocks changes -/
theorem OwnL.nodesMod {F R : Nat → Prop} {w w' : World} {E : TypeId} {sz : Nat} {v : Value} {l : List PNode} {ob : Option Nat} (h : OwnL w E sz (RNode R w) v l ob) (m : Mod F w w') (h1 : ∀ g, ob = some g → ¬ F g) (h2 : ∀ b, R b → ¬ F b) :
    OwnL w' E sz (RNode R w') v l ob := h.keep (fun g hg => m.block g (h.lt g hg) (h1 g hg)) (fun _ _ _ hR => hR.mod m h2)
theorem OwnL.edgesMod {F R : Nat → Prop} {w w' : World} {E : TypeId} {sz : Nat} {v : Value} {l : List PEdge} {ob : Option Nat} (h : OwnL w E sz (REdge R w) v l ob) (m : Mod F w w') (h1 : ∀ g, ob = some g → ¬ F g) (h2 : ∀ b, R b → ¬ F b) :
    OwnL w' E sz (REdge R w') v l ob := h.keep (fun g hg => m.block g (h.lt g hg) (h1 g hg)) (fun _ _ _ hR => hR.mod m h2)

theorem addNode_close {T : TypeId} {S R : Nat → Prop} {w wA w5 : World} {B : Nat} {G : PGraph} {on oe on5 : Option Nat} {nv ev v5 : Value} {rows : List (List Value)} {o : POp}
    (h2 : S B) (h3 : ¬ R B) (h4 : ∀ b, R b → S b ∧ b < w.heap.size) (h5 : ∀ g, on = some g → S g ∧ ¬ R g ∧ g ≠ B ∧ g < w.heap.size ∧ oe ≠ some g) (h6 : ∀ g, oe = some g → S g ∧ ¬ R g ∧ g ≠ B ∧ g < w.heap.size ∧ on ≠ some g)
    (h8 : OwnL w 79 5 (REdge R w) ev G.edges oe) (r1 : rows.length = G.nodes.length) (r3 : ∀ (k : Nat) x r, G.nodes[k]? = some x → rows[k]? = some r → RNode R w x r ∧ r.length = 3)
    (hA : Mod (fun b => b = B) w wA) (k1 : OwnS w5 59 3 v5 (G.nodes.length + 1) (rows.flatten ++ [.int .i64 G.next, .string o.typ, .slice none 0 0]) on5) (k2 : Mod (fun k => on = some k) wA w5)
    (k3 : on5 = on ∨ ∃ g, on5 = some g ∧ wA.heap.size ≤ g) (hb : w5.heap[B]? = some (.cells #[nv, ev, .int .i64 (G.next + 1)] T (0, 0))) (hBw : B < w.heap.size) :
    GraphOk T (fun b => S b ∨ w.heap.size ≤ b) (w5.setCell ⟨B, 0, none⟩ v5) B (addNodeG o G) ∧ Mod S w (w5.setCell ⟨B, 0, none⟩ v5) := by
  have m5 : Mod (fun b => b = B ∨ on = some b) w w5 := (hA.mono (fun _ h => .inl h)).step (k2.mono (fun _ h => .inr h))
  have m6 : Mod (fun b => b = B ∨ on = some b) w (w5.setCell ⟨B, 0, none⟩ v5) := m5.setd (p := ⟨B, 0, none⟩) (.inl (.inl rfl)) v5
  have ms : Mod (fun b => b = B) w5 (w5.setCell ⟨B, 0, none⟩ v5) := (Mod.rfl' (fun b => b = B) w5).setd (p := ⟨B, 0, none⟩) (.inl rfl) v5
  have hsz := hA.size
  have hR : ∀ b, R b → ¬ (b = B ∨ on = some b) := fun b hb h => h.elim (fun e => h3 (e ▸ hb)) (fun e => (h5 b e).2.1 hb)
  have h5B : ∀ g, on5 = some g → g ≠ B ∧ (S g ∨ w.heap.size ≤ g) ∧ ¬ R g := by
    intro g hg
    rcases k3 with k3 | ⟨g', k3, hge⟩
    · rw [k3] at hg
      exact ⟨(h5 g hg).2.2.1, .inl (h5 g hg).1, (h5 g hg).2.1⟩
    · rw [k3] at hg; cases hg
      exact ⟨by omega, .inr (by omega), fun hh => by have := (h4 _ hh).2; omega⟩
  refine ⟨⟨v5, ev, R, on5, oe, ?_, .inl h2, h3, fun b hb => ⟨.inl (h4 b hb).1, Nat.lt_of_lt_of_le (h4 b hb).2 m6.size⟩, fun g hg => (h5B g hg).2, fun g hg => ⟨.inl (h6 g hg).1, (h6 g hg).2.1⟩, ?_, ?_⟩, m6.mono (fun b hb => hb.elim (fun e => e ▸ h2) (fun e => (h5 b e).1))⟩
  · exact heap_setCell_same w5 B 0 _ T v5 hb
  · refine ⟨rows ++ [[.int .i64 G.next, .string o.typ, .slice none 0 0]], by show _ = (G.nodes ++ [_]).length; simp [r1], fun k y r hk hk' => ?_, ?_⟩
    · change (G.nodes ++ [_])[k]? = some y at hk
      by_cases hlt : k < G.nodes.length
      · rw [List.getElem?_append_left hlt] at hk
        rw [List.getElem?_append_left (by omega)] at hk'
        obtain ⟨a, b⟩ := r3 k y r hk hk'
        exact ⟨a.mod m6 hR, b⟩
      · rw [List.getElem?_append_right (by omega)] at hk
        rw [List.getElem?_append_right (by omega), r1] at hk'
        have e : k - G.nodes.length = 0 := by have := (List.getElem?_eq_some_iff.1 hk).1; simp at this; omega
        rw [e] at hk hk'
        simp at hk hk'
        subst hk; subst hk'
        exact ⟨⟨_, rfl, PropsR.nil _ _⟩, rfl⟩
    · have h := k1.keep (w' := w5.setCell ⟨B, 0, none⟩ v5) (fun g hg => ms.block g (k1.lt g hg) (h5B g hg).1)
      show OwnS _ _ _ _ (G.nodes ++ [_]).length _ _
      rw [List.length_append, List.length_singleton]
      simpa using h
  · exact h8.edgesMod m6 (fun g hg h => h.elim (h6 g hg).2.2.1 (h6 g hg).2.2.2.2) hR

set_option maxRecDepth 100000 in
set_option maxHeartbeats 2000000 in
theorem addNode (S : Nat → Prop) (B : Nat) (G : PGraph) (o : POp) (w : World) (h : GraphOk 68 S w B G) (hG : GInv G) (hf : fullG G = false) :
    Calls Tryz.prog 50 #[.pointer (some ⟨B, 0, none⟩), o.args] w fun e w' => e = .returned (.int .i64 G.next) ∧ GraphOk 68 (fun b => S b ∨ w.heap.size ≤ b) w' B (addNodeG o G) ∧ Mod S w w' := by
  obtain ⟨iP, hiP, hzP0, hzP1, hzP2⟩ := info_parts infoNode
  obtain ⟨nv, ev, R, on, oe, h1, h2, h3, h4, h5, h6, h7, h8⟩ := h.parts (by decide) (by decide)
  obtain ⟨hx1, hx2⟩ := full_no hf
  have H2 := Lib.hid h2; have H3 := Lib.hid h3; have H4 := Lib.hid h4; have H5 := Lib.hid h5; have H6 := Lib.hid h6; have H7 := Lib.hid h7; have H8 := Lib.hid h8
  have HLN := Lib.hid hx1
  have HN0 := Lib.hid hG.next0
  have HW := Lib.hid (show ∀ o1, Grow w (w.alloc o1) from fun o1 => (Grow.rfl' w).allocd o1)
  have HOP := Lib.hid (show OpAt (w.alloc (.cells o.cells.toArray 41)) w.heap.size o from heap_alloc_new w _)
  have HB0 := Lib.hid h1
  have hBs : B < w.heap.size := blk_lt h1
  clear h h2 h3 h4 h5 h6 h7 h8 hx1 hG hf h1
  go_enter Tryz.func50, Tryz.ntmps50
  go_wp2_with fail
  refine (graphGiven B nv ev G.next _ (((HW.out _).heapEq hBs).trans HB0.out) HN0.out (by omega)).mono ?_
  rintro e w2 ⟨rfl, hb2, hm2⟩
  have HM2 := Lib.hid hm2; have HB2 := Lib.hid hb2
  have HM02 := Lib.hid (show Mod (fun b => b = B) w w2 from (Mod.of_grow (HW.out _)).step hm2)
  obtain ⟨hlt2, -, -, c2, -⟩ := (HOP.out.mod hm2 (by omega)).at
  obtain ⟨oa, cap, hnv⟩ : ∃ oa cap, nv = .slice oa G.nodes.length cap := by obtain ⟨_, _, _, h⟩ := H7.out; obtain ⟨oa, cap, h, _⟩ := h.isSlice; exact ⟨oa, cap, h⟩
  subst hnv
  have hB2 : B < w2.heap.size := blk_lt hb2
  have g0 : w2.cell? ⟨B, 0, none⟩ = some (.slice oa G.nodes.length cap) := by rw [blk_cell hb2]; rfl
  have f0 := blk_free hb2 0
  clear hb2 hm2
  obtain ⟨rows, hr1, hr2, hr3, hos⟩ := H7.out.rowLen
  have HOS := Lib.hid (show ∀ o1, OwnS (w2.drew.alloc o1) 59 3 (.slice oa G.nodes.length cap) G.nodes.length rows.flatten on from fun o1 =>
    (hos.keep (fun g hg => HM02.out.block g (hos.lt g hg) (H5.out g hg).2.2.1)).grow (((Grow.rfl' w2).drewd).allocd o1))
  have HR2 := Lib.hid hr2; have HR3 := Lib.hid hr3; have HR1 := Lib.hid hr1
  have HRD := Lib.hid (Rd.lit w2.drew #[.int .i64 G.next, .string o.typ, .slice none 0 0] 59 3 1 rfl)
  have HBK := Lib.hid (show ∀ o1, (w2.drew.alloc o1).heap[B]? = some (.cells #[.slice oa G.nodes.length cap, ev, .int .i64 (G.next + 1)] 68 (0, 0)) from fun o1 => ((((Grow.rfl' w2).drewd).allocd o1).heapEq hB2).trans HB2.out)
  clear hr1 hr2 hr3 hos
  go_wp2_with fail
  go_region_law (refine step_append_S rfl (.tmp 12) (.tmp 17) 65 rfl 59 iP _ 3 48 Tryz.underlying65 hiP hzP0 hzP1 hzP2 rfl (by decide) (.slice oa G.nodes.length cap) G.nodes.length rows.flatten on (by simp [Act.eval]) (HOS.out _) (.slice (some ⟨w2.heap.size, 0, none⟩) 1 1) (by simp [Act.eval]) 1 _ HRD.out (by intro u hu; simp only [List.mem_cons, List.not_mem_nil, or_false] at hu; rcases hu with rfl | rfl | rfl <;> rfl) (by have := HLN.out; unfold maxLen; omega) (by have := HLN.out; omega) ?_; intro v5 w5 on5 k1 k2 k3 k4; obtain ⟨oa5, cap5, rfl, -, -⟩ := k1.isSlice; have K1 := Lib.hid k1; have K2 := Lib.hid k2; have K3 := Lib.hid k3; have hb5 := (k2.block B (Nat.lt_of_lt_of_le hB2 ((((Grow.rfl' w2).drewd).allocd _).size)) (fun hh => (H5.out B hh).2.2.1 rfl)).trans (HBK.out _); have HB5 := Lib.hid hb5; have hB5 := blk_lt hb5; have q0 : w5.cell? ⟨B, 0, none⟩ = some (.slice oa G.nodes.length cap) := (blk_cell hb5 0).trans rfl; have qf := blk_free hb5 0; clear hb5 k1 k2 k3 k4)
  all_goals
    go_wp2
    go_ret
    have hcl := addNode_close (o := o) H2.out H3.out H4.out H5.out H6.out H8.out HR1.out HR3.out (HM02.out.step (Mod.of_grow (Grow.drewd (Grow.allocd (Grow.rfl' w2) _)))) K1.out K2.out K3.out HB5.out hBs
    exact ⟨rfl, hcl⟩
theorem addEdge_close {T : TypeId} {S R : Nat → Prop} {w wA w5 : World} {B : Nat} {G : PGraph} {on oe oe5 : Option Nat} {nv ev v5 : Value} {rows : List (List Value)} {o : POp}
    (h2 : S B) (h3 : ¬ R B) (h4 : ∀ b, R b → S b ∧ b < w.heap.size) (h5 : ∀ g, on = some g → S g ∧ ¬ R g ∧ g ≠ B ∧ g < w.heap.size ∧ oe ≠ some g) (h6 : ∀ g, oe = some g → S g ∧ ¬ R g ∧ g ≠ B ∧ g < w.heap.size ∧ on ≠ some g)
    (h7 : OwnL w 59 3 (RNode R w) nv G.nodes on) (r1 : rows.length = G.edges.length) (r3 : ∀ (k : Nat) x r, G.edges[k]? = some x → rows[k]? = some r → REdge R w x r ∧ r.length = 5)
    (hA : Mod (fun b => b = B) w wA) (k1 : OwnS w5 79 5 v5 (G.edges.length + 1) (rows.flatten ++ [.int .i64 G.next, .string o.typ, .int .i64 o.from_, .int .i64 o.to_, .slice none 0 0]) oe5) (k2 : Mod (fun k => oe = some k) wA w5)
    (k3 : oe5 = oe ∨ ∃ g, oe5 = some g ∧ wA.heap.size ≤ g) (hb : w5.heap[B]? = some (.cells #[nv, ev, .int .i64 (G.next + 1)] T (0, 0))) (hBw : B < w.heap.size) :
    GraphOk T (fun b => S b ∨ w.heap.size ≤ b) (w5.setCell ⟨B, 1, none⟩ v5) B (addEdgeG o G) ∧ Mod S w (w5.setCell ⟨B, 1, none⟩ v5) := by
  have m5 : Mod (fun b => b = B ∨ oe = some b) w w5 := (hA.mono (fun _ h => .inl h)).step (k2.mono (fun _ h => .inr h))
  have m6 : Mod (fun b => b = B ∨ oe = some b) w (w5.setCell ⟨B, 1, none⟩ v5) := m5.setd (p := ⟨B, 1, none⟩) (.inl (.inl rfl)) v5
  have ms : Mod (fun b => b = B) w5 (w5.setCell ⟨B, 1, none⟩ v5) := (Mod.rfl' (fun b => b = B) w5).setd (p := ⟨B, 1, none⟩) (.inl rfl) v5
  have hsz := hA.size
  have hR : ∀ b, R b → ¬ (b = B ∨ oe = some b) := fun b hb h => h.elim (fun e => h3 (e ▸ hb)) (fun e => (h6 b e).2.1 hb)
  have h5B : ∀ g, oe5 = some g → g ≠ B ∧ (S g ∨ w.heap.size ≤ g) ∧ ¬ R g := by
    intro g hg
    rcases k3 with k3 | ⟨g', k3, hge⟩
    · rw [k3] at hg
      exact ⟨(h6 g hg).2.2.1, .inl (h6 g hg).1, (h6 g hg).2.1⟩
    · rw [k3] at hg; cases hg
      exact ⟨by omega, .inr (by omega), fun hh => by have := (h4 _ hh).2; omega⟩
  refine ⟨⟨nv, v5, R, on, oe5, ?_, .inl h2, h3, fun b hb => ⟨.inl (h4 b hb).1, Nat.lt_of_lt_of_le (h4 b hb).2 m6.size⟩, fun g hg => ⟨.inl (h5 g hg).1, (h5 g hg).2.1⟩, fun g hg => (h5B g hg).2, ?_, ?_⟩, m6.mono (fun b hb => hb.elim (fun e => e ▸ h2) (fun e => (h6 b e).1))⟩
  · exact heap_setCell_same w5 B 1 _ T v5 hb
  · exact h7.nodesMod m6 (fun g hg h => h.elim (h5 g hg).2.2.1 (h5 g hg).2.2.2.2) hR
  · refine ⟨rows ++ [[.int .i64 G.next, .string o.typ, .int .i64 o.from_, .int .i64 o.to_, .slice none 0 0]], by show _ = (G.edges ++ [_]).length; simp [r1], fun k y r hk hk' => ?_, ?_⟩
    · change (G.edges ++ [_])[k]? = some y at hk
      by_cases hlt : k < G.edges.length
      · rw [List.getElem?_append_left hlt] at hk
        rw [List.getElem?_append_left (by omega)] at hk'
        obtain ⟨a, b⟩ := r3 k y r hk hk'
        exact ⟨a.mod m6 hR, b⟩
      · rw [List.getElem?_append_right (by omega)] at hk
        rw [List.getElem?_append_right (by omega), r1] at hk'
        have e : k - G.edges.length = 0 := by have := (List.getElem?_eq_some_iff.1 hk).1; simp at this; omega
        rw [e] at hk hk'
        simp at hk hk'
        subst hk; subst hk'
        exact ⟨⟨_, rfl, PropsR.nil _ _⟩, rfl⟩
    · have h := k1.keep (w' := w5.setCell ⟨B, 1, none⟩ v5) (fun g hg => ms.block g (k1.lt g hg) (h5B g hg).1)
      show OwnS _ _ _ _ (G.edges ++ [_]).length _ _
      rw [List.length_append, List.length_singleton]
      simpa using h

set_option maxRecDepth 100000 in
set_option maxHeartbeats 2000000 in
theorem addEdge (S : Nat → Prop) (B : Nat) (G : PGraph) (o : POp) (w : World) (h : GraphOk 68 S w B G) (hG : GInv G) (hf : fullG G = false) :
    Calls Tryz.prog 54 #[.pointer (some ⟨B, 0, none⟩), o.args] w fun e w' => e = .returned (.int .i64 G.next) ∧ GraphOk 68 (fun b => S b ∨ w.heap.size ≤ b) w' B (addEdgeG o G) ∧ Mod S w w' := by
  obtain ⟨iP, hiP, hzP0, hzP1, hzP2⟩ := info_parts infoEdge
  obtain ⟨nv, ev, R, on, oe, h1, h2, h3, h4, h5, h6, h7, h8⟩ := h.parts (by decide) (by decide)
  obtain ⟨hx1, hx2⟩ := full_no hf
  have H2 := Lib.hid h2; have H3 := Lib.hid h3; have H4 := Lib.hid h4; have H5 := Lib.hid h5; have H6 := Lib.hid h6; have H7 := Lib.hid h7; have H8 := Lib.hid h8
  have HLN := Lib.hid hx1
  have HN0 := Lib.hid hG.next0
  have HW := Lib.hid (show ∀ o1, Grow w (w.alloc o1) from fun o1 => (Grow.rfl' w).allocd o1)
  have HOP := Lib.hid (show OpAt (w.alloc (.cells o.cells.toArray 41)) w.heap.size o from heap_alloc_new w _)
  have HB0 := Lib.hid h1
  have hBs : B < w.heap.size := blk_lt h1
  clear h h2 h3 h4 h5 h6 h7 h8 hx1 hG hf h1
  go_enter Tryz.func54, Tryz.ntmps54
  go_wp2_with fail
  refine (graphGiven B nv ev G.next _ (((HW.out _).heapEq hBs).trans HB0.out) HN0.out (by omega)).mono ?_
  rintro e w2 ⟨rfl, hb2, hm2⟩
  have HM2 := Lib.hid hm2; have HB2 := Lib.hid hb2
  have HM02 := Lib.hid (show Mod (fun b => b = B) w w2 from (Mod.of_grow (HW.out _)).step hm2)
  obtain ⟨hlt2, -, -, c2, c3, c4, -⟩ := (HOP.out.mod hm2 (by omega)).at
  obtain ⟨oa, cap, hev⟩ : ∃ oa cap, ev = .slice oa G.edges.length cap := by obtain ⟨_, _, _, h⟩ := H8.out; obtain ⟨oa, cap, h, _⟩ := h.isSlice; exact ⟨oa, cap, h⟩
  subst hev
  have hB2 : B < w2.heap.size := blk_lt hb2
  have g0 : w2.cell? ⟨B, 1, none⟩ = some (.slice oa G.edges.length cap) := by rw [blk_cell hb2]; rfl
  have f0 := blk_free hb2 1
  clear hb2 hm2
  obtain ⟨rows, hr1, hr2, hr3, hos⟩ := H8.out.rowLen
  have HOS := Lib.hid (show ∀ o1, OwnS (w2.drew.alloc o1) 79 5 (.slice oa G.edges.length cap) G.edges.length rows.flatten oe from fun o1 =>
    (hos.keep (fun g hg => HM02.out.block g (hos.lt g hg) (H6.out g hg).2.2.1)).grow (((Grow.rfl' w2).drewd).allocd o1))
  have HR2 := Lib.hid hr2; have HR3 := Lib.hid hr3; have HR1 := Lib.hid hr1
  have HRD := Lib.hid (Rd.lit w2.drew #[.int .i64 G.next, .string o.typ, .int .i64 o.from_, .int .i64 o.to_, .slice none 0 0] 79 5 1 rfl)
  have HBK := Lib.hid (show ∀ o1, (w2.drew.alloc o1).heap[B]? = some (.cells #[nv, .slice oa G.edges.length cap, .int .i64 (G.next + 1)] 68 (0, 0)) from fun o1 => ((((Grow.rfl' w2).drewd).allocd o1).heapEq hB2).trans HB2.out)
  clear hr1 hr2 hr3 hos
  go_wp2_with fail
  go_region_law (refine step_append_S rfl (.tmp 12) (.tmp 21) 66 rfl 79 iP _ 5 64 Tryz.underlying66 hiP hzP0 hzP1 hzP2 rfl (by decide) (.slice oa G.edges.length cap) G.edges.length rows.flatten oe (by simp [Act.eval]) (HOS.out _) (.slice (some ⟨w2.heap.size, 0, none⟩) 1 1) (by simp [Act.eval]) 1 _ HRD.out (by intro u hu; simp only [List.mem_cons, List.not_mem_nil, or_false] at hu; rcases hu with rfl | rfl | rfl | rfl | rfl <;> rfl) (by have := HLN.out; unfold maxLen; omega) (by have := HLN.out; omega) ?_; intro v5 w5 oe5 k1 k2 k3 k4; obtain ⟨oa5, cap5, rfl, -, -⟩ := k1.isSlice; have K1 := Lib.hid k1; have K2 := Lib.hid k2; have K3 := Lib.hid k3; have hb5 := (k2.block B (Nat.lt_of_lt_of_le hB2 ((((Grow.rfl' w2).drewd).allocd _).size)) (fun hh => (H6.out B hh).2.2.1 rfl)).trans (HBK.out _); have HB5 := Lib.hid hb5; have hB5 := blk_lt hb5; have q0 : w5.cell? ⟨B, 1, none⟩ = some (.slice oa G.edges.length cap) := (blk_cell hb5 1).trans rfl; have qf := blk_free hb5 1; clear hb5 k1 k2 k3 k4)
  all_goals
    go_wp2
    go_ret
    have hcl := addEdge_close (o := o) H2.out H3.out H4.out H5.out H6.out H7.out HR1.out HR3.out (HM02.out.step (Mod.of_grow (Grow.drewd (Grow.allocd (Grow.rfl' w2) _)))) K1.out K2.out K3.out HB5.out hBs
    exact ⟨rfl, hcl⟩
end Go.Hg
