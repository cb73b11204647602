/- hedgerowref17: what changes of its lists leave; cut. No condition but a graph's own. Printed by genrefdo.py. -/
import Derived.Test.YtcokiflkjnekeaaGreatRefB
import Derived.Test.YtcokiflkjnekeaaGreatMutB
namespace Go.Hg
open Go.RowKit Go.Proofs

theorem ob_case {o o' : Option Nat} {n m : Nat} (h : o' = o ∨ ∃ g, o' = some g ∧ m ≤ g) (hn : n ≤ m) (ho : ∀ g, o = some g → n ≤ g) : ∀ g, o' = some g → n ≤ g := by
  intro g hg
  rcases h with h | ⟨g', h, hm⟩
  · exact ho g (h ▸ hg)
  · rw [h] at hg
    cases hg
    omega
theorem raddN_close {T : TypeId} {S R : Nat → Prop} {w wA w5 w6 : World} {B : Nat} {G : PGraph} {on oe on5 : Option Nat} {ev v5 : Value} {rows : List (List Value)} {o : POp}
    (h2 : S B) (h3 : ¬ R B) (h4 : ∀ b, R b → S b ∧ b < w.heap.size) (h5 : ∀ g, on = some g → S g ∧ ¬ R g ∧ g ≠ B ∧ g < w.heap.size ∧ oe ≠ some g) (h6 : ∀ g, oe = some g → S g ∧ ¬ R g ∧ g ≠ B ∧ g < w.heap.size ∧ on ≠ some g)
    (h8 : OwnL w 79 5 (REdge R w) ev G.edges oe) (r1 : rows.length = G.nodes.length) (r3 : ∀ (k : Nat) x r, G.nodes[k]? = some x → rows[k]? = some r → RNode R w x r ∧ r.length = 3)
    (hA : Mod (fun b => b = B) w wA) (k1 : OwnS w5 59 3 v5 (G.nodes.length + 1) (rows.flatten ++ [.int .i64 G.next, .string o.typ, .slice none 0 0]) on5) (k2 : Mod (fun k => on = some k) wA w5)
    (k3 : on5 = on ∨ ∃ g, on5 = some g ∧ wA.heap.size ≤ g) (m56 : Mod (fun b => b = B) w5 w6) (hb6 : w6.heap[B]? = some (.cells #[v5, ev, .int .i64 (G.next + 1)] T (0, 0))) (hBw : B < w.heap.size) :
    GraphOk T (fun b => S b ∨ w.heap.size ≤ b) w6 B (addNodeG o G) ∧ Mod S w w6 := by
  have m5 : Mod (fun b => b = B ∨ on = some b) w w5 := (hA.mono (fun _ h => .inl h)).step (k2.mono (fun _ h => .inr h))
  have m6 : Mod (fun b => b = B ∨ on = some b) w w6 := m5.step (m56.mono (fun _ h => .inl h))
  have hsz := hA.size
  have hR : ∀ b, R b → ¬ (b = B ∨ on = some b) := fun b hb h => h.elim (fun e => h3 (e ▸ hb)) (fun e => (h5 b e).2.1 hb)
  have h5B : ∀ g, on5 = some g → g ≠ B ∧ (S g ∨ w.heap.size ≤ g) ∧ ¬ R g := by
    intro g hg
    rcases k3 with k3 | ⟨g', k3, hge⟩
    · rw [k3] at hg
      exact ⟨(h5 g hg).2.2.1, .inl (h5 g hg).1, (h5 g hg).2.1⟩
    · rw [k3] at hg; cases hg
      exact ⟨by omega, .inr (by omega), fun hh => by have := (h4 _ hh).2; omega⟩
  refine ⟨⟨v5, ev, R, on5, oe, hb6, .inl h2, h3, fun b hb => ⟨.inl (h4 b hb).1, Nat.lt_of_lt_of_le (h4 b hb).2 m6.size⟩, fun g hg => (h5B g hg).2, fun g hg => ⟨.inl (h6 g hg).1, (h6 g hg).2.1⟩, ?_, ?_⟩, m6.mono (fun b hb => hb.elim (fun e => e ▸ h2) (fun e => (h5 b e).1))⟩
  · refine ⟨rows ++ [[.int .i64 G.next, .string o.typ, .slice none 0 0]], by show _ = (G.nodes ++ [_]).length; simp [r1], fun k y r hk hk' => ?_, ?_⟩
    · change (G.nodes ++ [_])[k]? = some y at hk
      by_cases hlt : k < G.nodes.length
      · rw [List.getElem?_append_left hlt] at hk
        rw [List.getElem?_append_left (by omega)] at hk'
        obtain ⟨a, b⟩ := r3 k y r hk hk'
        exact ⟨a.mod m6 hR, b⟩
      · rw [List.getElem?_append_right (by omega)] at hk
        rw [List.getElem?_append_right (by omega), r1] at hk'
        have e : k - G.nodes.length = 0 := by have := (List.getElem?_eq_some_iff.1 hk).1; simp at this; omega
        rw [e] at hk hk'
        simp at hk hk'
        subst hk; subst hk'
        exact ⟨⟨_, rfl, PropsR.nil _ _⟩, rfl⟩
    · have h := k1.keep (w' := w6) (fun g hg => m56.block g (k1.lt g hg) (h5B g hg).1)
      show OwnS _ _ _ _ (G.nodes ++ [_]).length _ _
      rw [List.length_append, List.length_singleton]
      simpa using h
  · exact h8.edgesMod m6 (fun g hg h => h.elim (h6 g hg).2.2.1 (h6 g hg).2.2.2.2) hR

theorem raddE_close {T : TypeId} {S R : Nat → Prop} {w wA w5 w6 : World} {B : Nat} {G : PGraph} {on oe on5 : Option Nat} {nv v5 : Value} {rows : List (List Value)} {o : POp}
    (h2 : S B) (h3 : ¬ R B) (h4 : ∀ b, R b → S b ∧ b < w.heap.size) (h5 : ∀ g, on = some g → S g ∧ ¬ R g ∧ g ≠ B ∧ g < w.heap.size ∧ oe ≠ some g) (h6 : ∀ g, oe = some g → S g ∧ ¬ R g ∧ g ≠ B ∧ g < w.heap.size ∧ on ≠ some g)
    (h7 : OwnL w 59 3 (RNode R w) nv G.nodes on) (r1 : rows.length = G.edges.length) (r3 : ∀ (k : Nat) x r, G.edges[k]? = some x → rows[k]? = some r → REdge R w x r ∧ r.length = 5)
    (hA : Mod (fun b => b = B) w wA) (k1 : OwnS w5 79 5 v5 (G.edges.length + 1) (rows.flatten ++ [.int .i64 G.next, .string o.typ, .int .i64 o.from_, .int .i64 o.to_, .slice none 0 0]) on5) (k2 : Mod (fun k => oe = some k) wA w5)
    (k3 : on5 = oe ∨ ∃ g, on5 = some g ∧ wA.heap.size ≤ g) (m56 : Mod (fun b => b = B) w5 w6) (hb6 : w6.heap[B]? = some (.cells #[nv, v5, .int .i64 (G.next + 1)] T (0, 0))) (hBw : B < w.heap.size) :
    GraphOk T (fun b => S b ∨ w.heap.size ≤ b) w6 B (addEdgeG o G) ∧ Mod S w w6 := by
  have m5 : Mod (fun b => b = B ∨ oe = some b) w w5 := (hA.mono (fun _ h => .inl h)).step (k2.mono (fun _ h => .inr h))
  have m6 : Mod (fun b => b = B ∨ oe = some b) w w6 := m5.step (m56.mono (fun _ h => .inl h))
  have hsz := hA.size
  have hR : ∀ b, R b → ¬ (b = B ∨ oe = some b) := fun b hb h => h.elim (fun e => h3 (e ▸ hb)) (fun e => (h6 b e).2.1 hb)
  have h5B : ∀ g, on5 = some g → g ≠ B ∧ (S g ∨ w.heap.size ≤ g) ∧ ¬ R g := by
    intro g hg
    rcases k3 with k3 | ⟨g', k3, hge⟩
    · rw [k3] at hg
      exact ⟨(h6 g hg).2.2.1, .inl (h6 g hg).1, (h6 g hg).2.1⟩
    · rw [k3] at hg; cases hg
      exact ⟨by omega, .inr (by omega), fun hh => by have := (h4 _ hh).2; omega⟩
  refine ⟨⟨nv, v5, R, on, on5, hb6, .inl h2, h3, fun b hb => ⟨.inl (h4 b hb).1, Nat.lt_of_lt_of_le (h4 b hb).2 m6.size⟩, fun g hg => ⟨.inl (h5 g hg).1, (h5 g hg).2.1⟩, fun g hg => (h5B g hg).2, ?_, ?_⟩, m6.mono (fun b hb => hb.elim (fun e => e ▸ h2) (fun e => (h6 b e).1))⟩
  · exact h7.nodesMod m6 (fun g hg h => h.elim (h5 g hg).2.2.1 (h5 g hg).2.2.2.2) hR
  · refine ⟨rows ++ [[.int .i64 G.next, .string o.typ, .int .i64 o.from_, .int .i64 o.to_, .slice none 0 0]], by show _ = (G.edges ++ [_]).length; simp [r1], fun k y r hk hk' => ?_, ?_⟩
    · change (G.edges ++ [_])[k]? = some y at hk
      by_cases hlt : k < G.edges.length
      · rw [List.getElem?_append_left hlt] at hk
        rw [List.getElem?_append_left (by omega)] at hk'
        obtain ⟨a, b⟩ := r3 k y r hk hk'
        exact ⟨a.mod m6 hR, b⟩
      · rw [List.getElem?_append_right (by omega)] at hk
        rw [List.getElem?_append_right (by omega), r1] at hk'
        have e : k - G.edges.length = 0 := by have := (List.getElem?_eq_some_iff.1 hk).1; simp at this; omega
        rw [e] at hk hk'
        simp at hk hk'
        subst hk; subst hk'
        exact ⟨⟨_, rfl, PropsR.nil _ _⟩, rfl⟩
    · have h := k1.keep (w' := w6) (fun g hg => m56.block g (k1.lt g hg) (h5B g hg).1)
      show OwnS _ _ _ _ (G.edges ++ [_]).length _ _
      rw [List.length_append, List.length_singleton]
      simpa using h

theorem rcutN_close {T : TypeId} {S R : Nat → Prop} {w w6 w7 : World} {B k : Nat} {G : PGraph} {on oe o6 : Option Nat} {ev v6 : Value} {rows : List (List Value)}
    (h2 : S B) (h3 : ¬ R B) (h4 : ∀ b, R b → S b ∧ b < w.heap.size) (_h5 : ∀ g, on = some g → S g ∧ ¬ R g ∧ g ≠ B ∧ g < w.heap.size ∧ oe ≠ some g) (h6 : ∀ g, oe = some g → S g ∧ ¬ R g ∧ g ≠ B ∧ g < w.heap.size ∧ on ≠ some g)
    (h8 : OwnL w 79 5 (REdge R w) ev G.edges oe) (r1 : rows.length = G.nodes.length) (r2 : ∀ r ∈ rows, r.length = 3) (r3 : ∀ (k : Nat) x r, G.nodes[k]? = some x → rows[k]? = some r → RNode R w x r ∧ r.length = 3)
    (hkl : k < G.nodes.length) (k1 : OwnS w6 59 3 v6 (G.nodes.length - 1) (rows.flatten.take (k * 3) ++ rows.flatten.drop ((k + 1) * 3)) o6) (k2 : Grow w w6)
    (k3 : ∀ g, o6 = some g → w.heap.size ≤ g) (m67 : Mod (fun b => b = B) w6 w7) (hb7 : w7.heap[B]? = some (.cells #[v6, ev, .int .i64 G.next] T (0, 0))) (hBw : B < w.heap.size) :
    GraphOk T (fun b => S b ∨ w.heap.size ≤ b) w7 B ⟨G.nodes.take k ++ G.nodes.drop (k + 1), G.edges, G.next⟩ ∧ Mod (fun b => b = B) w w7 := by
  have m7 : Mod (fun b => b = B) w w7 := (Mod.of_grow k2).step m67
  have hRB : ∀ b, R b → ¬ (b = B) := fun b hb e => h3 (e ▸ hb)
  refine ⟨⟨v6, ev, R, o6, oe, hb7, .inl h2, h3, fun b hb => ⟨.inl (h4 b hb).1, Nat.lt_of_lt_of_le (h4 b hb).2 m7.size⟩, fun g hg => ⟨.inr (k3 g hg), fun hh => by have := (h4 _ hh).2; have := k3 g hg; omega⟩, fun g hg => ⟨.inl (h6 g hg).1, (h6 g hg).2.1⟩, ?_, ?_⟩, m7⟩
  · refine OwnL.erase r1 r2 r3 (fun x r _ hR => hR.mod m7 hRB) hkl ?_
    exact k1.keep (fun g hg => m67.block g (k1.lt g hg) (fun e => by have := k3 g hg; omega))
  · exact h8.edgesMod m7 (fun g hg e => (h6 g hg).2.2.1 e) hRB

theorem rcutE_close {T : TypeId} {S R : Nat → Prop} {w w6 w7 : World} {B k : Nat} {G : PGraph} {on oe o6 : Option Nat} {nv v6 : Value} {rows : List (List Value)}
    (h2 : S B) (h3 : ¬ R B) (h4 : ∀ b, R b → S b ∧ b < w.heap.size) (h5 : ∀ g, on = some g → S g ∧ ¬ R g ∧ g ≠ B ∧ g < w.heap.size ∧ oe ≠ some g) (_h6 : ∀ g, oe = some g → S g ∧ ¬ R g ∧ g ≠ B ∧ g < w.heap.size ∧ on ≠ some g)
    (h7 : OwnL w 59 3 (RNode R w) nv G.nodes on) (r1 : rows.length = G.edges.length) (r2 : ∀ r ∈ rows, r.length = 5) (r3 : ∀ (k : Nat) x r, G.edges[k]? = some x → rows[k]? = some r → REdge R w x r ∧ r.length = 5)
    (hkl : k < G.edges.length) (k1 : OwnS w6 79 5 v6 (G.edges.length - 1) (rows.flatten.take (k * 5) ++ rows.flatten.drop ((k + 1) * 5)) o6) (k2 : Grow w w6)
    (k3 : ∀ g, o6 = some g → w.heap.size ≤ g) (m67 : Mod (fun b => b = B) w6 w7) (hb7 : w7.heap[B]? = some (.cells #[nv, v6, .int .i64 G.next] T (0, 0))) (hBw : B < w.heap.size) :
    GraphOk T (fun b => S b ∨ w.heap.size ≤ b) w7 B ⟨G.nodes, G.edges.take k ++ G.edges.drop (k + 1), G.next⟩ ∧ Mod (fun b => b = B) w w7 := by
  have m7 : Mod (fun b => b = B) w w7 := (Mod.of_grow k2).step m67
  have hRB : ∀ b, R b → ¬ (b = B) := fun b hb e => h3 (e ▸ hb)
  refine ⟨⟨nv, v6, R, on, o6, hb7, .inl h2, h3, fun b hb => ⟨.inl (h4 b hb).1, Nat.lt_of_lt_of_le (h4 b hb).2 m7.size⟩, fun g hg => ⟨.inl (h5 g hg).1, (h5 g hg).2.1⟩, fun g hg => ⟨.inr (k3 g hg), fun hh => by have := (h4 _ hh).2; have := k3 g hg; omega⟩, ?_, ?_⟩, m7⟩
  · exact h7.nodesMod m7 (fun g hg e => (h5 g hg).2.2.1 e) hRB
  · refine OwnL.erase r1 r2 r3 (fun x r _ hR => hR.mod m7 hRB) hkl ?_
    exact k1.keep (fun g hg => m67.block g (k1.lt g hg) (fun e => by have := k3 g hg; omega))

set_option maxRecDepth 100000 in
set_option maxHeartbeats 4000000 in
theorem refCut (S : Nat → Prop) (B : Nat) (G : PGraph) (id : Int) (w : World) (h : GraphOk 70 S w B G) (hi : G.edges.length ≤ 1024) (hs : (G.edges.map (·.id)).Pairwise (· < ·)) (hn : hasE G id = true) :
    Calls Tryz.prog 25 #[.pointer (some ⟨B, 0, none⟩), .int .i64 id] w fun e w' => (∃ v, e = .returned v) ∧ GraphOk 70 (fun b => S b ∨ w.heap.size ≤ b) w' B ⟨G.nodes, G.edges.filter (fun x => !decide (x.id = id)), G.next⟩ ∧ Mod (fun b => b = B) w w' := by
  obtain ⟨iP, hiP, hzP0, hzP1, hzP2⟩ := info_parts infoEdge
  have HRD := Lib.hid h.rd
  obtain ⟨nv, ev, R, on, oe, h1, h2, h3, h4, h5, h6, h7, h8⟩ := h.parts (by decide) (by decide)
  have H2 := Lib.hid h2; have H3 := Lib.hid h3; have H4 := Lib.hid h4; have H5 := Lib.hid h5; have H6 := Lib.hid h6; have H7 := Lib.hid h7; have H8 := Lib.hid h8
  have HLN := Lib.hid hi; have HS := Lib.hid hs
  have HBW := Lib.hid h1
  have hBW : B < w.heap.size := blk_lt h1
  obtain ⟨k, x, hz, hkl, hx, hid⟩ := idxZ_some (f := fun x : PEdge => x.id) hn
  have HZ := Lib.hid hz; have HX := Lib.hid hx; have HXI := Lib.hid hid
  clear h h1 h2 h3 h4 h5 h6 h7 h8 hi hs hn hz hx hid
  obtain ⟨rows, hr1, hr2, hr3, hos⟩ := H8.out.rowLen
  have HR1 := Lib.hid hr1; have HR2 := Lib.hid hr2; have HR3 := Lib.hid hr3
  have hxl := hos.1
  obtain ⟨g, cap, cur, hnv, hog, hblk, hnc, hcm, hcs, htk⟩ : ∃ g cap, ∃ cur : Array Value, ev = .slice (some ⟨g, 0, none⟩) G.edges.length cap ∧ oe = some g ∧ w.heap[g]? = some (.cells cur 79 (0, 0)) ∧ G.edges.length ≤ cap ∧ cap ≤ maxLen ∧ cur.size = cap * 5 ∧ cur.toList.take (G.edges.length * 5) = rows.flatten := by
    rcases hos.2 with ⟨_, _, h, _⟩ | ⟨g, cap, cur, h1, h2, h3, h4, h5, h6, h7⟩
    · omega
    · exact ⟨g, cap, cur, h1, h2, h3, h4, h5, h6, h7⟩
  subst hnv
  have hgw : g < w.heap.size := blk_lt hblk
  have hrd1 : ∀ w', Grow w w' → Rd w' 5 (.slice (some ⟨g, 0, none⟩) k cap) k (rows.flatten.take (k * 5)) := fun w' hg => ⟨by rw [List.length_take, hxl]; have := Nat.mul_le_mul_right 5 (Nat.le_of_lt hkl); omega, _, _, rfl, .inr ⟨_, rfl, fun j u hu => by
    rw [Addr.add_lit, blk_cell ((hg.heapEq hgw).trans hblk), ← Array.getElem?_toList]
    rw [← htk, List.take_take, List.getElem?_take] at hu
    split at hu
    · simpa using hu
    · cases hu⟩⟩
  have hrd2 : ∀ w' o c, Grow w w' → (cap = k + 1 ∨ o = (k + 1) * 5) → Rd w' 5 (.slice (some ⟨g, o, none⟩) (G.edges.length - (k + 1)) c) (G.edges.length - (k + 1)) (rows.flatten.drop ((k + 1) * 5)) := fun w' o c hg ho => ⟨by rw [List.length_drop, hxl, Nat.sub_mul], _, _, rfl, by
    rcases ho with ho | rfl
    · exact .inl (by omega)
    · exact .inr ⟨_, rfl, fun j u hu => by
        rw [Addr.add_lit, blk_cell ((hg.heapEq hgw).trans hblk), ← Array.getElem?_toList]
        rw [← htk, List.getElem?_drop, List.getElem?_take] at hu
        split at hu
        · exact hu
        · cases hu⟩⟩
  have HRD1 := Lib.hid hrd1; have HRD2 := Lib.hid hrd2
  have HOS0 := Lib.hid (OwnS.lit w.drew #[] 79 5 0 (by unfold maxLen; omega) (by simp))
  have HG1 := Lib.hid (show ∀ o1, Grow w (w.drew.alloc o1) from fun o1 => ((Grow.rfl' w).drewd).allocd o1)
  have HONE := Lib.hid (OwnL.one_flatE HR1.out HR3.out)
  have g0 : w.cell? ⟨B, 1, none⟩ = some (.slice (some ⟨g, 0, none⟩) G.edges.length cap) := by rw [blk_cell HBW.out]; rfl
  have f0 := blk_free HBW.out 1
  have hq1 : (0 : Int) ≤ (k : Int) + 1 := by omega
  have hq2 : (k : Int) ≤ (k : Int) + 1 := by omega
  have hq3 : (k : Int) + 1 ≤ (G.edges.length : Int) := by omega
  have hq4 : ((k : Int) + 1).toNat = k + 1 := by omega
  have hq5 : (G.edges.length : Int) ≤ (cap : Int) := by omega
  have hq6 : (k : Int) ≤ (cap : Int) := by omega
  have hq7 : IntKind.i64.wrap ((k : Int) + 1) = (k : Int) + 1 := by have := HLN.out; rw [IntKind.wrap_i64]; omega
  have HHOG := Lib.hid hog
  clear hr1 hr2 hr3 hos hxl hblk hcs htk hrd1 hrd2 hog
  unfold maxLen at hcm
  clear g0 f0
  go_enter Tryz.func25, Tryz.ntmps25
  go_wp2_with fail
  refine (refEdge S B G id _ HRD.out).mono ?_
  rintro e w2 ⟨rfl, hw2⟩
  rw [hw2, HZ.out]
  clear hw2 w2
  have g0 : w.cell? ⟨B, 1, none⟩ = some (.slice (some ⟨g, 0, none⟩) G.edges.length cap) := (blk_cell HBW.out 1).trans rfl
  have f0 := blk_free HBW.out 1
  by_cases hce : cap = k + 1
  · have hnk : G.edges.length = k + 1 := by omega
    have HRD3 := Lib.hid (show ∀ w', Grow w w' → Rd w' 5 (.slice (some ⟨g, 0, none⟩) 0 0) 0 (rows.flatten.drop ((k + 1) * 5)) from fun w' hg => by
      have := HRD2.out w' 0 0 hg (.inl hce)
      rwa [hnk, Nat.sub_self] at this)
    subst hce
    go_wp2_with fail
    go_region_law (first | (refine step_append_S rfl (.tmp 9) (.tmp 15) 66 rfl 79 iP _ 5 64 Tryz.underlying66 hiP hzP0 hzP1 hzP2 rfl (by decide) (.slice (some ⟨w.heap.size, 0, none⟩) 0 0) 0 [] (some w.heap.size) (by rfl) HOS0.out (.slice (some ⟨g, 0, none⟩) k (k + 1)) (by rfl) k _ (HRD1.out _ (HG1.out _)) (fun u hu => HONE.out u (List.mem_of_mem_take hu)) (by have := HLN.out; unfold maxLen; omega) (by have := HLN.out; omega) ?_; intro v5 w5 o5 k1 k2 k3 k4; rw [Nat.zero_add, List.nil_append] at k1; obtain ⟨oa5, cap5, rfl, -, -⟩ := k1.isSlice; have K1 := Lib.hid k1; have K2 := Lib.hid ((HG1.out _).modd k2 (fun b hb => by cases hb; exact Nat.le_refl _)); have K3 := Lib.hid (ob_case k3 (HG1.out _).size (fun g hg => by cases hg; exact Nat.le_refl _)); have hb5 := (K2.out.heapEq hBW).trans HBW.out; have HB5 := Lib.hid hb5; have hB5 := blk_lt hb5; have q0 : w5.cell? ⟨B, 1, none⟩ = some (.slice (some ⟨g, 0, none⟩) G.edges.length (k + 1)) := (blk_cell hb5 1).trans rfl; have qf := blk_free hb5 1; clear hb5 k1 k2 k3 k4) | (refine step_append_S rfl (.tmp 16) (.tmp 23) 66 rfl 79 iP _ 5 64 Tryz.underlying66 hiP hzP0 hzP1 hzP2 rfl (by decide) (.slice oa5 k cap5) k _ o5 (by rfl) K1.out (.slice (some ⟨g, 0, none⟩) 0 0) (by rfl) 0 _ (HRD3.out _ K2.out) (fun u hu => HONE.out u (List.mem_of_mem_drop hu)) (by have := HLN.out; unfold maxLen; omega) (by have := HLN.out; omega) ?_; intro v6 w6 o6 j1 j2 j3 j4; rw [show k + 0 = G.edges.length - 1 by omega] at j1; obtain ⟨oa6, cap6, rfl, -, -⟩ := j1.isSlice; have J1 := Lib.hid j1; have J2 := Lib.hid (K2.out.modd j2 (fun b hb => K3.out b hb)); have J3 := Lib.hid (ob_case j3 K2.out.size K3.out); have hb6 := (J2.out.heapEq hBW).trans HBW.out; have HB6 := Lib.hid hb6; have hB6 := blk_lt hb6; have r0 : w6.cell? ⟨B, 1, none⟩ = some (.slice (some ⟨g, 0, none⟩) G.edges.length (k + 1)) := (blk_cell hb6 1).trans rfl; have rf6 := blk_free hb6 1; clear hb6 j1 j2 j3 j4))
    all_goals
      go_wp2
      go_end0
      have hcl := rcutE_close H2.out H3.out H4.out H5.out H6.out H7.out HR1.out HR2.out HR3.out hkl J1.out J2.out J3.out ((Mod.rfl' (fun b => b = B) w6).setd (p := ⟨B, 1, none⟩) (.inl rfl) _) (heap_setCell_same w6 B 1 _ _ _ HB6.out) hBW
      try rw [show G.edges.length - 1 = k by omega] at hcl
      refine ⟨⟨_, rfl⟩, ?_, hcl.2⟩
      rw [filter_idx (fun x : PEdge => x.id) HS.out HX.out HXI.out]
      exact hcl.1
  · have hcd : ¬ cap = k + 1 := hce
    go_wp2_with fail
    go_region_law (first | (refine step_append_S rfl (.tmp 9) (.tmp 15) 66 rfl 79 iP _ 5 64 Tryz.underlying66 hiP hzP0 hzP1 hzP2 rfl (by decide) (.slice (some ⟨w.heap.size, 0, none⟩) 0 0) 0 [] (some w.heap.size) (by rfl) HOS0.out (.slice (some ⟨g, 0, none⟩) k cap) (by rfl) k _ (HRD1.out _ (HG1.out _)) (fun u hu => HONE.out u (List.mem_of_mem_take hu)) (by have := HLN.out; unfold maxLen; omega) (by have := HLN.out; omega) ?_; intro v5 w5 o5 k1 k2 k3 k4; rw [Nat.zero_add, List.nil_append] at k1; obtain ⟨oa5, cap5, rfl, -, -⟩ := k1.isSlice; have K1 := Lib.hid k1; have K2 := Lib.hid ((HG1.out _).modd k2 (fun b hb => by cases hb; exact Nat.le_refl _)); have K3 := Lib.hid (ob_case k3 (HG1.out _).size (fun g hg => by cases hg; exact Nat.le_refl _)); have hb5 := (K2.out.heapEq hBW).trans HBW.out; have HB5 := Lib.hid hb5; have hB5 := blk_lt hb5; have q0 : w5.cell? ⟨B, 1, none⟩ = some (.slice (some ⟨g, 0, none⟩) G.edges.length cap) := (blk_cell hb5 1).trans rfl; have qf := blk_free hb5 1; clear hb5 k1 k2 k3 k4) | (refine step_append_S rfl (.tmp 16) (.tmp 23) 66 rfl 79 iP _ 5 64 Tryz.underlying66 hiP hzP0 hzP1 hzP2 rfl (by decide) (.slice oa5 k cap5) k _ o5 (by rfl) K1.out (.slice (some ⟨g, ((k + 1) * 5), none⟩) (G.edges.length - (k + 1)) (cap - (k + 1))) (by rfl) (G.edges.length - (k + 1)) _ (HRD2.out _ _ _ K2.out (.inr rfl)) (fun u hu => HONE.out u (List.mem_of_mem_drop hu)) (by have := HLN.out; unfold maxLen; omega) (by have := HLN.out; omega) ?_; intro v6 w6 o6 j1 j2 j3 j4; rw [show k + (G.edges.length - (k + 1)) = G.edges.length - 1 by omega] at j1; obtain ⟨oa6, cap6, rfl, -, -⟩ := j1.isSlice; have J1 := Lib.hid j1; have J2 := Lib.hid (K2.out.modd j2 (fun b hb => K3.out b hb)); have J3 := Lib.hid (ob_case j3 K2.out.size K3.out); have hb6 := (J2.out.heapEq hBW).trans HBW.out; have HB6 := Lib.hid hb6; have hB6 := blk_lt hb6; have r0 : w6.cell? ⟨B, 1, none⟩ = some (.slice (some ⟨g, 0, none⟩) G.edges.length cap) := (blk_cell hb6 1).trans rfl; have rf6 := blk_free hb6 1; clear hb6 j1 j2 j3 j4))
    all_goals
      go_wp2
      go_end0
      have hcl := rcutE_close H2.out H3.out H4.out H5.out H6.out H7.out HR1.out HR2.out HR3.out hkl J1.out J2.out J3.out ((Mod.rfl' (fun b => b = B) w6).setd (p := ⟨B, 1, none⟩) (.inl rfl) _) (heap_setCell_same w6 B 1 _ _ _ HB6.out) hBW
      try rw [show G.edges.length - 1 = k by omega] at hcl
      refine ⟨⟨_, rfl⟩, ?_, hcl.2⟩
      rw [filter_idx (fun x : PEdge => x.id) HS.out HX.out HXI.out]
      exact hcl.1
end Go.Hg
