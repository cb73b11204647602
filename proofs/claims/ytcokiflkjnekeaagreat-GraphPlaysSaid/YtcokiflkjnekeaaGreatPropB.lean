/- graph.setProp. No condition but a graph's own. -/
import Derived.Test.YtcokiflkjnekeaaGreatPropA
namespace Go.Hg
open Go.RowKit Go.Proofs

theorem flatten_set1 {α : Type} : ∀ (rows : List (List α)) (sz i t : Nat) (r : List α) (u : α), (∀ r ∈ rows, r.length = sz) → rows[i]? = some r → t < sz → rows.flatten.set (i * sz + t) u = (rows.set i (r.set t u)).flatten
  | [], sz, i, t, r, u, _, h, _ => by simp at h
  | r0 :: rows, sz, 0, t, r, u, h0, h, ht => by
    simp at h; subst h
    have h1 : r0.length = sz := h0 r0 (by simp)
    simp [List.set_append_left _ _ (show t < r0.length by omega)]
  | r0 :: rows, sz, i + 1, t, r, u, h0, h, ht => by
    have h1 : r0.length = sz := h0 r0 (by simp)
    have ih := flatten_set1 rows sz i t r u (fun r hr => h0 r (by simp [hr])) (by simpa using h) ht
    rw [List.flatten_cons, List.set_append_right _ _ (by rw [h1, Nat.succ_mul]; omega)]
    rw [show (i + 1) * sz + t - r0.length = i * sz + t by rw [h1, Nat.succ_mul]; omega, ih]
    simp
theorem OwnL.setOne {α : Type} {w : World} {E : TypeId} {sz : Nat} {R R' : α → List Value → Prop} {v : Value} {l : List α} {g i t : Nat} {x x' : α} {u : Value} (h : OwnL w E sz R v l (some g)) (hi : l[i]? = some x) (ht : t < sz)
    (hx : ∀ r, R x r → R' x' (r.set t u)) (hR : ∀ (j : Nat) y r, j ≠ i → l[j]? = some y → R y r → R' y r) : OwnL (w.setCell ⟨g, i * sz + t, none⟩ u) E sz R' v (l.set i x') (some g) := by
  obtain ⟨rows, h1, hlen, h2, h3⟩ := h.rowLen
  have hil : i < l.length := (List.getElem?_eq_some_iff.1 hi).1
  have hr : rows[i]? = some (rows[i]'(by omega)) := List.getElem?_eq_getElem _
  refine ⟨rows.set i ((rows[i]'(by omega)).set t u), by simp [h1], fun j y r hj hr' => ?_, ?_⟩
  · rw [List.getElem?_set] at hj hr'
    by_cases hij : i = j
    · subst hij
      rw [if_pos rfl, if_pos hil] at hj
      rw [if_pos rfl, if_pos (by omega)] at hr'
      cases hj; cases hr'
      obtain ⟨a, b⟩ := h2 i x _ hi hr
      exact ⟨hx _ a, by rw [List.length_set]; exact b⟩
    · rw [if_neg hij] at hj hr'
      obtain ⟨a, b⟩ := h2 j y r hj hr'
      exact ⟨hR j _ _ (fun e => hij e.symm) hj a, b⟩
  · rw [← flatten_set1 rows sz i t _ u hlen hr ht, List.length_set]
    exact h3.stored rfl _ _

theorem setProp_close {S R : Nat → Prop} {T : TypeId} {w w5 : World} {B : Nat} {G : PGraph} {nv ev : Value} {on oe : Option Nat} {o : POp} {g k : Nat} {ps : List PProp} {v5 : Value} (hG : GInv G)
    (h1 : w.heap[B]? = some (.cells #[nv, ev, .int .i64 G.next] T (0, 0))) (h2 : S B) (h3 : ¬ R B) (h4 : ∀ b, R b → S b ∧ b < w.heap.size) (h5 : ∀ g, on = some g → S g ∧ ¬ R g ∧ g ≠ B ∧ g < w.heap.size ∧ oe ≠ some g)
    (h6 : ∀ g, oe = some g → S g ∧ ¬ R g ∧ g ≠ B ∧ g < w.heap.size ∧ on ≠ some g) (h7 : OwnL w 59 3 (RNode R w) nv G.nodes on) (h8 : OwnL w 79 5 (REdge R w) ev G.edges oe)
    (hpa : PropsAt G on oe o.id (.pointer (some ⟨g, k, none⟩))) (hf : findP G o.id = some ps) (hg : Grow w w5) (hp : PropsR (fun b => w.heap.size ≤ b) w5 v5 (setP ps o.name o.v)) :
    GraphOk T (fun b => S b ∨ w.heap.size ≤ b) (w5.setCell ⟨g, k, none⟩ v5) B (setPropG o G) ∧ Mod S w (w5.setCell ⟨g, k, none⟩ v5) := by
  have hgw : g < w.heap.size ∧ S g ∧ ¬ R g ∧ g ≠ B := by
    rcases hpa with ⟨-, i, x, g', -, -, ho, e⟩ | ⟨-, -, i, x, g', -, -, ho, e⟩ | ⟨-, -, e⟩
    · simp only [Value.pointer.injEq, Option.some.injEq, Addr.mk.injEq, and_true] at e
      obtain ⟨rfl, rfl⟩ := e
      exact ⟨(h5 _ ho).2.2.2.1, (h5 _ ho).1, (h5 _ ho).2.1, (h5 _ ho).2.2.1⟩
    · simp only [Value.pointer.injEq, Option.some.injEq, Addr.mk.injEq, and_true] at e
      obtain ⟨rfl, rfl⟩ := e
      exact ⟨(h6 _ ho).2.2.2.1, (h6 _ ho).1, (h6 _ ho).2.1, (h6 _ ho).2.2.1⟩
    · simp at e
  obtain ⟨hgw, hSg, hRg, hgB⟩ := hgw
  have m5 : Mod (fun b => b = g) w5 (w5.setCell ⟨g, k, none⟩ v5) := (Mod.rfl' (fun b => b = g) w5).setd (p := ⟨g, k, none⟩) (.inl rfl) v5
  have m6 : Mod (fun b => b = g) w (w5.setCell ⟨g, k, none⟩ v5) := (Mod.of_grow hg).step m5
  have hs5 := hg.size
  have hs6 : (w5.setCell ⟨g, k, none⟩ v5).heap.size = w5.heap.size := by simp
  have hpc := hp.cut
  refine ⟨?_, m6.mono (fun b e => e ▸ hSg)⟩
  have hR' : ∀ b, (R b ∨ (w.heap.size ≤ b ∧ b < w5.heap.size)) → (S b ∨ w.heap.size ≤ b) ∧ b < (w5.setCell ⟨g, k, none⟩ v5).heap.size := by
    rw [hs6]
    intro b hb
    rcases hb with hb | hb
    · exact ⟨.inl (h4 b hb).1, by have := (h4 b hb).2; omega⟩
    · exact ⟨.inr hb.1, hb.2⟩
  have hRn : ∀ b, R b → ¬ (b = g) := fun b hb e => hRg (e ▸ hb)
  have hpg : ∀ b, (w.heap.size ≤ b ∧ b < w5.heap.size) → ¬ (b = g) := fun b hb e => by omega
  have hpv : PropsR (fun b => R b ∨ (w.heap.size ≤ b ∧ b < w5.heap.size)) (w5.setCell ⟨g, k, none⟩ v5) v5 (setP ps o.name o.v) := (hpc.mod m5 hpg).sub (fun b hb => .inr hb)
  have hB : (w5.setCell ⟨g, k, none⟩ v5).heap[B]? = some (.cells #[nv, ev, .int .i64 G.next] T (0, 0)) := (m6.block B (blk_lt h1) (fun e => hgB e.symm)).trans h1
  have hnB : ¬ (R B ∨ (w.heap.size ≤ B ∧ B < w5.heap.size)) := fun h => h.elim h3 (fun h => by have := blk_lt h1; omega)
  have hon : ∀ g, on = some g → (S g ∨ w.heap.size ≤ g) ∧ ¬ (R g ∨ (w.heap.size ≤ g ∧ g < w5.heap.size)) := fun g hg => ⟨.inl (h5 g hg).1, fun h => h.elim (h5 g hg).2.1 (fun h => by have := (h5 g hg).2.2.2.1; omega)⟩
  have hoe : ∀ g, oe = some g → (S g ∨ w.heap.size ≤ g) ∧ ¬ (R g ∨ (w.heap.size ≤ g ∧ g < w5.heap.size)) := fun g hg => ⟨.inl (h6 g hg).1, fun h => h.elim (h6 g hg).2.1 (fun h => by have := (h6 g hg).2.2.2.1; omega)⟩
  have h7' := h7.nodesMod (Mod.of_grow (F := fun _ => False) hg) (fun _ _ => id) (fun _ _ => id)
  have h8' := h8.edgesMod (Mod.of_grow (F := fun _ => False) hg) (fun _ _ => id) (fun _ _ => id)
  rcases hpa with ⟨hn, i, x, g', hx, hxi, ho, e⟩ | ⟨hn, he, i, x, g', hx, hxi, ho, e⟩ | ⟨-, -, e⟩
  · simp only [Value.pointer.injEq, Option.some.injEq, Addr.mk.injEq, and_true] at e
    obtain ⟨rfl, rfl⟩ := e
    subst ho
    have hps : ps = x.props := by
      unfold findP at hf
      rw [find_idx (fun x : PNode => x.id) hG.nodes hx hxi] at hf
      simpa using hf.symm
    subst hps
    unfold setPropG
    rw [if_pos hn]
    refine ⟨nv, ev, fun b => R b ∨ (w.heap.size ≤ b ∧ b < w5.heap.size), some g, oe, hB, .inl h2, hnB, hR', hon, hoe, ?_, ?_⟩
    · show OwnL _ _ _ _ _ (G.nodes.map fun x => if x.id = o.id then (⟨x.id, x.typ, setP x.props o.name o.v⟩ : PNode) else x) _
      rw [map_idx (fun x : PNode => x.id) (fun x : PNode => (⟨x.id, x.typ, setP x.props o.name o.v⟩ : PNode)) hG.nodes hx hxi]
      refine h7'.setOne hx (by omega) (fun r hr => ?_) (fun _ y r _ _ hr => (hr.mod m5 hRn).sub (fun _ h => .inl h))
      obtain ⟨pv, rfl, -⟩ := hr
      exact ⟨v5, rfl, hpv⟩
    · exact h8'.keep (fun b hb => m5.block b (h8'.lt b hb) (fun e => (h6 b hb).2.2.2.2 (by rw [e]))) (fun y r _ hr => (hr.mod m5 hRn).sub (fun _ h => .inl h))
  · simp only [Value.pointer.injEq, Option.some.injEq, Addr.mk.injEq, and_true] at e
    obtain ⟨rfl, rfl⟩ := e
    subst ho
    have hps : ps = x.props := by
      unfold findP at hf
      rw [find_none (fun x : PNode => x.id) hn, find_idx (fun x : PEdge => x.id) hG.edges hx hxi] at hf
      simpa using hf.symm
    subst hps
    unfold setPropG
    rw [if_neg (by rw [hn]; simp)]
    refine ⟨nv, ev, fun b => R b ∨ (w.heap.size ≤ b ∧ b < w5.heap.size), on, some g, hB, .inl h2, hnB, hR', hon, hoe, ?_, ?_⟩
    · exact h7'.keep (fun b hb => m5.block b (h7'.lt b hb) (fun e => (h5 b hb).2.2.2.2 (by rw [e]))) (fun y r _ hr => (hr.mod m5 hRn).sub (fun _ h => .inl h))
    · show OwnL _ _ _ _ _ (G.edges.map fun x => if x.id = o.id then (⟨x.id, x.typ, x.from_, x.to_, setP x.props o.name o.v⟩ : PEdge) else x) _
      rw [map_idx (fun x : PEdge => x.id) (fun x : PEdge => (⟨x.id, x.typ, x.from_, x.to_, setP x.props o.name o.v⟩ : PEdge)) hG.edges hx hxi]
      refine h8'.setOne hx (by omega) (fun r hr => ?_) (fun _ y r _ _ hr => (hr.mod m5 hRn).sub (fun _ h => .inl h))
      obtain ⟨pv, rfl, -⟩ := hr
      exact ⟨v5, rfl, hpv⟩
  · simp at e

set_option maxRecDepth 100000 in
set_option maxHeartbeats 2000000 in
theorem setProp (S : Nat → Prop) (B : Nat) (G : PGraph) (o : POp) (ps : List PProp) (w : World) (h : GraphOk 68 S w B G) (hG : GInv G) (hf : findP G o.id = some ps) :
    Calls Tryz.prog 58 #[.pointer (some ⟨B, 0, none⟩), o.args] w fun e w' => e = .returned (.int .i64 0) ∧ GraphOk 68 (fun b => S b ∨ w.heap.size ≤ b) w' B (setPropG o G) ∧ Mod S w w' := by
  have HGR := Lib.hid h; have HI := Lib.hid hG; have HF := Lib.hid hf
  have HW := Lib.hid (show ∀ o1, Grow w (w.alloc o1) from fun o1 => (Grow.rfl' w).allocd o1)
  have HOP := Lib.hid (show OpAt (w.alloc (.cells o.cells.toArray 41)) w.heap.size o from heap_alloc_new w _)
  obtain ⟨nv, ev, R, on, oe, h1, h2, h3, h4, h5, h6, h7, h8⟩ := h.parts (by decide) (by decide)
  have H2 := Lib.hid h2; have H3 := Lib.hid h3; have H4 := Lib.hid h4; have H5 := Lib.hid h5; have H6 := Lib.hid h6; have H7 := Lib.hid h7; have H8 := Lib.hid h8; have HB := Lib.hid h1
  have hB : B < w.heap.size := blk_lt h1
  clear h hG hf h1 h2 h3 h4 h5 h6 h7 h8
  go_enter Tryz.func58, Tryz.ntmps58
  go_wp2_with fail
  refine (graphProps S R B G nv ev on oe o.id _ (HGR.out.grow (HW.out _)) HI.out (((HW.out _).heapEq hB).trans HB.out) (H7.out.nodesMod (Mod.of_grow (F := fun _ => False) (HW.out _)) (fun _ _ => id) (fun _ _ => id)) (H8.out.edgesMod (Mod.of_grow (F := fun _ => False) (HW.out _)) (fun _ _ => id) (fun _ _ => id))).mono ?_
  rintro e w2 ⟨pv, rfl, hpa, hg⟩
  have HG2 := Lib.hid ((HW.out _).step hg); have HPA := Lib.hid hpa
  have HOP2 := Lib.hid (HOP.out.grow hg)
  clear hpa hg
  have HRD := Lib.hid (HPA.out.read HI.out (H7.out.nodesMod (Mod.of_grow (F := fun _ => False) HG2.out) (fun _ _ => id) (fun _ _ => id)) (H8.out.edgesMod (Mod.of_grow (F := fun _ => False) HG2.out) (fun _ _ => id) (fun _ _ => id)))
  rcases HRD.out with ⟨hf, rfl⟩ | ⟨g, k, ps', pv', hf, hl8, rfl, hon, hcell, hfz, hp⟩
  · rw [HF.out] at hf; cases hf
  obtain rfl : ps = ps' := by rw [HF.out] at hf; simpa using hf
  clear hf
  have HCELL := Lib.hid hcell; have HPR := Lib.hid hp; have HFZ := Lib.hid hfz
  obtain ⟨pa, pc, rfl⟩ := hp.isSlice
  clear hcell hp hfz hon
  have hcl2 := HCELL.out
  have hlt2 := cell_lt hcl2
  have hfz2 := HFZ.out
  obtain ⟨hltb, -, -, -, -, -, c5, c6, c7, c8, -⟩ := HOP2.out.at
  go_wp2_with fail
  go_region_with (first | (go_at_call 85; refine (valSet R _ ps o.name o.v _ (HPR.out.grow ((Grow.rfl' w2).drewd)) (by omega)).mono ?_; rintro e w5 ⟨v5, rfl, hp5, hg5⟩; have HG5 := Lib.hid hg5; have HP5 := Lib.hid hp5; obtain ⟨a5, k5, rfl⟩ := hp5.isSlice; have hq5 : w5.cell? ⟨g, k, none⟩ = some (.slice pa ps.length pc) := (hg5.cell (p := ⟨g, k, none⟩) hlt2).trans hcl2; have hz5 : w5.frozen? ⟨g, k, none⟩ = false := (World.frozen?_of_block (w := w2.drew) (hg5.heapEq hlt2)).trans hfz2; have hl5 := cell_lt hq5; clear hp5 hg5))
  all_goals
    go_wp2
    go_ret
    exact ⟨rfl, setProp_close HI.out HB.out H2.out H3.out H4.out H5.out H6.out H7.out H8.out HPA.out HF.out (HG2.out.step (((Grow.rfl' w2).drewd).step HG5.out)) (HP5.out.sub (fun b hb => Nat.le_trans HG2.out.size hb))⟩
end Go.Hg
