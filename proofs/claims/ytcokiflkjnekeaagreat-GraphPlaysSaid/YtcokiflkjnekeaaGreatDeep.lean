/- Slices of nodes and edges that are one's own. No condition. -/
import Derived.Test.YtcokiflkjnekeaaGreatOwn
import Derived.Test.YtcokiflkjnekeaaGreatData
namespace Go.Hg
open Go.RowKit

theorem flatten_at {α : Type} : ∀ (rows : List (List α)) (sz k j : Nat) (r : List α) (c : α), (∀ r ∈ rows, r.length = sz) → rows[k]? = some r → r[j]? = some c → rows.flatten[k * sz + j]? = some c
  | [], sz, k, j, r, c, _, h, _ => by simp at h
  | r0 :: rows, sz, 0, j, r, c, h0, h, hj => by
    simp at h; subst h
    have hlt : j < r0.length := (List.getElem?_eq_some_iff.1 hj).1
    simp [List.getElem?_append_left hlt, hj]
  | r0 :: rows, sz, k + 1, j, r, c, h0, h, hj => by
    have h1 : r0.length = sz := h0 r0 (by simp)
    have ih := flatten_at rows sz k j r c (fun r hr => h0 r (by simp [hr])) (by simpa using h) hj
    rw [List.flatten_cons, List.getElem?_append_right (by rw [h1, Nat.succ_mul]; omega)]
    rw [show (k + 1) * sz + j - r0.length = k * sz + j by rw [h1, Nat.succ_mul]; omega]
    exact ih

def OwnL {α : Type} (w : World) (E : TypeId) (sz : Nat) (R : α → List Value → Prop) (v : Value) (l : List α) (ob : Option Nat) : Prop :=
  ∃ rows : List (List Value), rows.length = l.length ∧ (∀ (k : Nat) x r, l[k]? = some x → rows[k]? = some r → R x r ∧ r.length = sz) ∧ OwnS w E sz v l.length rows.flatten ob

section
variable {α : Type} {w w' : World} {E : TypeId} {sz : Nat} {R R' : α → List Value → Prop} {v v' : Value} {l : List α} {ob ob' : Option Nat}
theorem OwnL.nil (w : World) (E : TypeId) (sz : Nat) (R : α → List Value → Prop) : OwnL w E sz R (.slice none 0 0) [] none := ⟨[], rfl, by simp, OwnS.nil w E sz⟩
theorem OwnL.rowLen (h : OwnL w E sz R v l ob) : ∃ rows : List (List Value), rows.length = l.length ∧ (∀ r ∈ rows, r.length = sz) ∧ (∀ (k : Nat) x r, l[k]? = some x → rows[k]? = some r → R x r ∧ r.length = sz) ∧ OwnS w E sz v l.length rows.flatten ob := by
  obtain ⟨rows, h1, h2, h3⟩ := h
  refine ⟨rows, h1, fun r hr => ?_, h2, h3⟩
  obtain ⟨k, hk, rfl⟩ := List.mem_iff_getElem.1 hr
  exact (h2 k l[k] _ (List.getElem?_eq_getElem (by omega)) (List.getElem?_eq_getElem hk)).2
theorem OwnL.keep (h : OwnL w E sz R v l ob) (hk : ∀ g, ob = some g → w'.heap[g]? = w.heap[g]?) (hR : ∀ x r, x ∈ l → R x r → R' x r) : OwnL w' E sz R' v l ob := by
  obtain ⟨rows, h1, h2, h3⟩ := h
  exact ⟨rows, h1, fun k x r a b => ⟨hR x r (List.mem_of_getElem? a) (h2 k x r a b).1, (h2 k x r a b).2⟩, h3.keep hk⟩
theorem OwnL.toSl (h : OwnL w E sz R v l ob) {S : Nat → Prop} (hS : ∀ g, ob = some g → S g) : SlR S w sz R v l := by
  obtain ⟨rows, h1, hlen, h2, h3⟩ := h.rowLen
  obtain ⟨oa, cap, rfl, hc, hm⟩ := h3.isSlice
  refine ⟨oa, cap, rows, rfl, hc, hm, h1, fun k x r a b => (h2 k x r a b).1, fun h0 => ?_⟩
  obtain ⟨g, cap', hv, ho, hlt, hcell, _⟩ := h3.cell h0
  simp only [Value.slice.injEq] at hv
  refine ⟨g, 0, hv.1, hS g ho, hlt, fun k r j c hr hj => ?_⟩
  rw [Nat.zero_add]
  exact hcell _ _ (flatten_at rows sz k j r c hlen hr hj)
theorem OwnL.snoc (h : OwnL w E sz R v l ob) {x : α} {r : List Value} (hr : R' x r) (hl : r.length = sz) (hR : ∀ x r, x ∈ l → R x r → R' x r)
    (h' : ∀ xs, OwnS w E sz v l.length xs ob → OwnS w' E sz v' (l.length + 1) (xs ++ r) ob') : OwnL w' E sz R' v' (l ++ [x]) ob' := by
  obtain ⟨rows, h1, h2, h3⟩ := h
  refine ⟨rows ++ [r], by simp [h1], fun k y r' hk hk' => ?_, ?_⟩
  · by_cases hlt : k < l.length
    · rw [List.getElem?_append_left hlt] at hk
      rw [List.getElem?_append_left (by omega)] at hk'
      exact ⟨hR _ _ (List.mem_of_getElem? hk) (h2 k y r' hk hk').1, (h2 k y r' hk hk').2⟩
    · rw [List.getElem?_append_right (by omega)] at hk
      rw [List.getElem?_append_right (by omega), h1] at hk'
      have e : k - l.length = 0 := by have := (List.getElem?_eq_some_iff.1 hk).1; simp at this; omega
      rw [e] at hk hk'
      simp at hk hk'
      subst hk; subst hk'
      exact ⟨hr, hl⟩
  · have := h' _ h3
    simpa using this
end

/-- nodes whose array and whose properties' arrays are of F, the array none of the properties' -/
def NodesO (F : Nat → Prop) (w : World) (v : Value) (l : List PNode) : Prop :=
  ∃ (S : Nat → Prop) (ob : Option Nat), (∀ b, S b → F b ∧ b < w.heap.size) ∧ (∀ g, ob = some g → F g ∧ ¬ S g) ∧ OwnL w 59 3 (RNode S w) v l ob
def EdgesO (F : Nat → Prop) (w : World) (v : Value) (l : List PEdge) : Prop :=
  ∃ (S : Nat → Prop) (ob : Option Nat), (∀ b, S b → F b ∧ b < w.heap.size) ∧ (∀ g, ob = some g → F g ∧ ¬ S g) ∧ OwnL w 79 5 (REdge S w) v l ob

theorem PropsR.mod {F S : Nat → Prop} {w w' : World} {v : Value} {ps : List PProp} (h : PropsR S w v ps) (g : Mod F w w') (hd : ∀ b, S b → ¬ F b) : PropsR S w' v ps :=
  SlR.keep h (fun b hS hb => g.block b hb (hd b hS)) g.size (fun _ _ _ hR => hR)
theorem PropsR.sub {S S' : Nat → Prop} {w : World} {v : Value} {ps : List PProp} (h : PropsR S w v ps) (hS : ∀ b, S b → S' b) : PropsR S' w v ps :=
  SlR.sub h hS (fun _ _ _ hR => hR)
/-- only the blocks that are there count -/
theorem PropsR.cut {S : Nat → Prop} {w : World} {v : Value} {ps : List PProp} (h : PropsR S w v ps) : PropsR (fun b => S b ∧ b < w.heap.size) w v ps := by
  obtain ⟨a, cap, rows, hv, hl, hc, hr, hR1, h⟩ := h
  refine ⟨a, cap, rows, hv, hl, hc, hr, hR1, fun h0 => ?_⟩
  obtain ⟨b, off, ha, hS, hb, hcell⟩ := h h0
  exact ⟨b, off, ha, ⟨hS, hb⟩, hb, hcell⟩
theorem RNode.mod {F S : Nat → Prop} {w w' : World} {x : PNode} {r : List Value} (h : RNode S w x r) (g : Mod F w w') (hd : ∀ b, S b → ¬ F b) : RNode S w' x r :=
  let ⟨pv, hr, hp⟩ := h
  ⟨pv, hr, hp.mod g hd⟩
theorem REdge.mod {F S : Nat → Prop} {w w' : World} {x : PEdge} {r : List Value} (h : REdge S w x r) (g : Mod F w w') (hd : ∀ b, S b → ¬ F b) : REdge S w' x r :=
  let ⟨pv, hr, hp⟩ := h
  ⟨pv, hr, hp.mod g hd⟩
theorem RNode.sub {S S' : Nat → Prop} {w : World} {x : PNode} {r : List Value} (h : RNode S w x r) (hS : ∀ b, S b → S' b) : RNode S' w x r :=
  let ⟨pv, hr, hp⟩ := h
  ⟨pv, hr, hp.sub hS⟩
theorem REdge.sub {S S' : Nat → Prop} {w : World} {x : PEdge} {r : List Value} (h : REdge S w x r) (hS : ∀ b, S b → S' b) : REdge S' w x r :=
  let ⟨pv, hr, hp⟩ := h
  ⟨pv, hr, hp.sub hS⟩
theorem NodesO.nil (F : Nat → Prop) (w : World) : NodesO F w (.slice none 0 0) [] := ⟨fun _ => False, none, by simp, by simp, OwnL.nil _ _ _ _⟩
theorem EdgesO.nil (F : Nat → Prop) (w : World) : EdgesO F w (.slice none 0 0) [] := ⟨fun _ => False, none, by simp, by simp, OwnL.nil _ _ _ _⟩
theorem NodesO.grow {F : Nat → Prop} {w w' : World} {v : Value} {l : List PNode} (h : NodesO F w v l) (g : Grow w w') : NodesO F w' v l := by
  obtain ⟨S, ob, h1, h2, h3⟩ := h
  refine ⟨S, ob, fun b hb => ⟨(h1 b hb).1, Nat.lt_of_lt_of_le (h1 b hb).2 g.size⟩, h2, h3.keep (fun k hk => ?_) (fun x r _ hR => hR.mod (Mod.of_grow (F := fun _ => False) g) (fun _ _ => id))⟩
  obtain ⟨rows, _, _, h4⟩ := h3
  exact g.heapEq (h4.lt k hk)
theorem EdgesO.grow {F : Nat → Prop} {w w' : World} {v : Value} {l : List PEdge} (h : EdgesO F w v l) (g : Grow w w') : EdgesO F w' v l := by
  obtain ⟨S, ob, h1, h2, h3⟩ := h
  refine ⟨S, ob, fun b hb => ⟨(h1 b hb).1, Nat.lt_of_lt_of_le (h1 b hb).2 g.size⟩, h2, h3.keep (fun k hk => ?_) (fun x r _ hR => hR.mod (Mod.of_grow (F := fun _ => False) g) (fun _ _ => id))⟩
  obtain ⟨rows, _, _, h4⟩ := h3
  exact g.heapEq (h4.lt k hk)
theorem NodesO.toR {F : Nat → Prop} {w : World} {v : Value} {l : List PNode} (h : NodesO F w v l) : NodesR F w v l := by
  obtain ⟨S, ob, h1, h2, h3⟩ := h
  exact SlR.sub (h3.toSl (S := F) (fun g hg => (h2 g hg).1)) (fun _ h => h) (fun x r _ hR => hR.sub (fun b hb => (h1 b hb).1))
theorem EdgesO.toR {F : Nat → Prop} {w : World} {v : Value} {l : List PEdge} (h : EdgesO F w v l) : EdgesR F w v l := by
  obtain ⟨S, ob, h1, h2, h3⟩ := h
  exact SlR.sub (h3.toSl (S := F) (fun g hg => (h2 g hg).1)) (fun _ h => h) (fun x r _ hR => hR.sub (fun b hb => (h1 b hb).1))

theorem PropsR.rd {S : Nat → Prop} {w : World} {v : Value} {ps : List PProp} (h : PropsR S w v ps) : Rd w 4 v ps.length (ps.map PProp.cells).flatten := by
  obtain ⟨a, cap, rows, hv, hl, hc, hr, hR1, h⟩ := h
  have hrows : rows = ps.map PProp.cells := by
    apply List.ext_getElem (by simp [hr])
    intro k h1 h2
    rw [List.getElem_map]
    exact hR1 k _ _ (List.getElem?_eq_getElem (by omega)) (List.getElem?_eq_getElem h1)
  have hfl : (ps.map PProp.cells).flatten.length = ps.length * 4 := by
    simp [List.length_flatten, Function.comp_def, List.map_const', List.sum_replicate_nat]
  refine ⟨hfl, a, cap, hv, ?_⟩
  by_cases h0 : ps.length = 0
  · exact .inl h0
  · obtain ⟨b, off, ha, hS, hb, hcell⟩ := h (by omega)
    refine .inr ⟨_, ha, fun j u hu => ?_⟩
    have hj : j < ps.length * 4 := by rw [← hfl]; exact (List.getElem?_eq_some_iff.1 hu).1
    have hk : j / 4 < ps.length := by omega
    have hrow : rows[j / 4]? = some (ps[j / 4]).cells := by rw [hrows]; simp [List.getElem?_map, List.getElem?_eq_getElem hk]
    have hrl : (ps[j / 4]).cells.length = 4 := rfl
    have hc1 : (ps[j / 4]).cells[j % 4]? = some ((ps[j / 4]).cells[j % 4]'(by rw [hrl]; omega)) := List.getElem?_eq_getElem _
    have hf := flatten_at (ps.map PProp.cells) 4 (j / 4) (j % 4) _ _ (by simp) (by rw [← hrows]; exact hrow) hc1
    have e : j / 4 * 4 + j % 4 = j := by omega
    rw [e, hu] at hf
    have hcc := hcell _ _ (j % 4) _ hrow hc1
    rw [Nat.add_assoc, e] at hcc
    rw [hf]
    unfold Addr.add
    split
    · rename_i hz; subst hz; simpa using hcc
    · exact hcc
theorem Rd.grow {w w' : World} {sz m : Nat} {x : Value} {news : List Value} (h : Rd w sz x m news) (g : Grow w w') : Rd w' sz x m news := by
  obtain ⟨h1, oa, cap, hx, h2⟩ := h
  refine ⟨h1, oa, cap, hx, h2.imp id (fun ⟨a, ha, hc⟩ => ⟨a, ha, fun j u hu => ?_⟩)⟩
  have h3 := hc j u hu
  rw [← h3]
  exact g.cell (World.block_lt_of_cell? w _ h3)
/-- a new row of properties -/
theorem OwnS.props {w : World} {v : Value} {ps : List PProp} {ob : Option Nat} (h : OwnS w 101 4 v ps.length (ps.map PProp.cells).flatten ob) : PropsR (fun b => ob = some b) w v ps := by
  have h2 : OwnL w 101 4 RProp v ps ob := ⟨ps.map PProp.cells, by simp, fun k x r hx hr => by
    rw [List.getElem?_map, hx] at hr
    simp only [Option.map_some, Option.some.injEq] at hr
    subst hr
    exact ⟨rfl, rfl⟩, h⟩
  exact h2.toSl (fun g hg => hg)

theorem NodesO.open {F : Nat → Prop} {w w' : World} {v : Value} {l : List PNode} (h : NodesO F w v l) (g : Grow w w') :
    ∃ (S : Nat → Prop) (ob : Option Nat) (rows : List (List Value)), (∀ b, S b → F b ∧ b < w.heap.size) ∧ (∀ x, ob = some x → F x ∧ ¬ S x ∧ x < w.heap.size) ∧ rows.length = l.length ∧
      (∀ (k : Nat) x r, l[k]? = some x → rows[k]? = some r → RNode S w' x r ∧ r.length = 3) ∧ OwnS w' 59 3 v l.length rows.flatten ob := by
  obtain ⟨S, ob, h1, h2, rows, h3, h4, h5⟩ := h
  exact ⟨S, ob, rows, h1, fun x hx => ⟨(h2 x hx).1, (h2 x hx).2, h5.lt x hx⟩, h3, fun k x r a b => ⟨(h4 k x r a b).1.mod (Mod.of_grow (F := fun _ => False) g) (fun _ _ => id), (h4 k x r a b).2⟩, h5.grow g⟩
theorem EdgesO.open {F : Nat → Prop} {w w' : World} {v : Value} {l : List PEdge} (h : EdgesO F w v l) (g : Grow w w') :
    ∃ (S : Nat → Prop) (ob : Option Nat) (rows : List (List Value)), (∀ b, S b → F b ∧ b < w.heap.size) ∧ (∀ x, ob = some x → F x ∧ ¬ S x ∧ x < w.heap.size) ∧ rows.length = l.length ∧
      (∀ (k : Nat) x r, l[k]? = some x → rows[k]? = some r → REdge S w' x r ∧ r.length = 5) ∧ OwnS w' 79 5 v l.length rows.flatten ob := by
  obtain ⟨S, ob, h1, h2, rows, h3, h4, h5⟩ := h
  exact ⟨S, ob, rows, h1, fun x hx => ⟨(h2 x hx).1, (h2 x hx).2, h5.lt x hx⟩, h3, fun k x r a b => ⟨(h4 k x r a b).1.mod (Mod.of_grow (F := fun _ => False) g) (fun _ _ => id), (h4 k x r a b).2⟩, h5.grow g⟩

theorem NodesO.close {F S SP : Nat → Prop} {w w' : World} {v' pv : Value} {l : List PNode} {ob ob' : Option Nat} {rows : List (List Value)} {x : PNode}
    (hS : ∀ b, S b → F b ∧ b < w.heap.size) (hob : ∀ g, ob = some g → F g ∧ ¬ S g) (h1 : rows.length = l.length)
    (h2 : ∀ (k : Nat) x r, l[k]? = some x → rows[k]? = some r → RNode S w x r ∧ r.length = 3) (h3 : ∃ v, OwnS w 59 3 v l.length rows.flatten ob)
    (hp : PropsR SP w pv x.props) (hSP : ∀ b, SP b → F b ∧ b < w.heap.size) (hd : ∀ g, ob = some g → ¬ SP g) (hF : ∀ g, w.heap.size ≤ g → F g)
    (hown : OwnS w' 59 3 v' (l.length + 1) (rows.flatten ++ [.int .i64 x.id, .string x.typ, pv]) ob') (hm : Mod (fun k => ob = some k) w w')
    (hob' : ob' = ob ∨ ∃ g, ob' = some g ∧ w.heap.size ≤ g) : NodesO F w' v' (l ++ [x]) := by
  obtain ⟨v, h3⟩ := h3
  refine ⟨fun b => S b ∨ SP b, ob', fun b hb => ?_, fun g hg => ?_, ?_⟩
  · have hs := hm.size
    rcases hb with hb | hb
    · exact ⟨(hS b hb).1, by have := (hS b hb).2; omega⟩
    · exact ⟨(hSP b hb).1, by have := (hSP b hb).2; omega⟩
  · rcases hob' with h | ⟨g', h, hge⟩
    · rw [h] at hg
      exact ⟨(hob g hg).1, fun h' => h'.elim (hob g hg).2 (hd g hg)⟩
    · rw [h] at hg; cases hg
      exact ⟨hF _ hge, fun h' => h'.elim (fun h'' => by have := (hS _ h'').2; omega) (fun h'' => by have := (hSP _ h'').2; omega)⟩
  · have hL : OwnL w 59 3 (RNode S w) v l ob := ⟨rows, h1, h2, h3⟩
    refine ⟨rows ++ [[.int .i64 x.id, .string x.typ, pv]], by simp [h1], fun k y r hk hk' => ?_, by simpa using hown⟩
    by_cases hlt : k < l.length
    · rw [List.getElem?_append_left hlt] at hk
      rw [List.getElem?_append_left (by omega)] at hk'
      obtain ⟨a, b⟩ := h2 k y r hk hk'
      exact ⟨(a.mod hm (fun b hb hh => (hob b hh).2 hb)).sub (fun _ h => .inl h), b⟩
    · rw [List.getElem?_append_right (by omega)] at hk
      rw [List.getElem?_append_right (by omega), h1] at hk'
      have e : k - l.length = 0 := by have := (List.getElem?_eq_some_iff.1 hk).1; simp at this; omega
      rw [e] at hk hk'
      simp at hk hk'
      subst hk; subst hk'
      exact ⟨⟨pv, rfl, (hp.mod hm (fun b hb hh => hd b hh hb)).sub (fun _ h => .inr h)⟩, rfl⟩
theorem EdgesO.close {F S SP : Nat → Prop} {w w' : World} {v' pv : Value} {l : List PEdge} {ob ob' : Option Nat} {rows : List (List Value)} {x : PEdge}
    (hS : ∀ b, S b → F b ∧ b < w.heap.size) (hob : ∀ g, ob = some g → F g ∧ ¬ S g) (h1 : rows.length = l.length)
    (h2 : ∀ (k : Nat) x r, l[k]? = some x → rows[k]? = some r → REdge S w x r ∧ r.length = 5) (h3 : ∃ v, OwnS w 79 5 v l.length rows.flatten ob)
    (hp : PropsR SP w pv x.props) (hSP : ∀ b, SP b → F b ∧ b < w.heap.size) (hd : ∀ g, ob = some g → ¬ SP g) (hF : ∀ g, w.heap.size ≤ g → F g)
    (hown : OwnS w' 79 5 v' (l.length + 1) (rows.flatten ++ [.int .i64 x.id, .string x.typ, .int .i64 x.from_, .int .i64 x.to_, pv]) ob') (hm : Mod (fun k => ob = some k) w w')
    (hob' : ob' = ob ∨ ∃ g, ob' = some g ∧ w.heap.size ≤ g) : EdgesO F w' v' (l ++ [x]) := by
  obtain ⟨v, h3⟩ := h3
  refine ⟨fun b => S b ∨ SP b, ob', fun b hb => ?_, fun g hg => ?_, ?_⟩
  · have hs := hm.size
    rcases hb with hb | hb
    · exact ⟨(hS b hb).1, by have := (hS b hb).2; omega⟩
    · exact ⟨(hSP b hb).1, by have := (hSP b hb).2; omega⟩
  · rcases hob' with h | ⟨g', h, hge⟩
    · rw [h] at hg
      exact ⟨(hob g hg).1, fun h' => h'.elim (hob g hg).2 (hd g hg)⟩
    · rw [h] at hg; cases hg
      exact ⟨hF _ hge, fun h' => h'.elim (fun h'' => by have := (hS _ h'').2; omega) (fun h'' => by have := (hSP _ h'').2; omega)⟩
  · have hL : OwnL w 79 5 (REdge S w) v l ob := ⟨rows, h1, h2, h3⟩
    refine ⟨rows ++ [[.int .i64 x.id, .string x.typ, .int .i64 x.from_, .int .i64 x.to_, pv]], by simp [h1], fun k y r hk hk' => ?_, by simpa using hown⟩
    by_cases hlt : k < l.length
    · rw [List.getElem?_append_left hlt] at hk
      rw [List.getElem?_append_left (by omega)] at hk'
      obtain ⟨a, b⟩ := h2 k y r hk hk'
      exact ⟨(a.mod hm (fun b hb hh => (hob b hh).2 hb)).sub (fun _ h => .inl h), b⟩
    · rw [List.getElem?_append_right (by omega)] at hk
      rw [List.getElem?_append_right (by omega), h1] at hk'
      have e : k - l.length = 0 := by have := (List.getElem?_eq_some_iff.1 hk).1; simp at this; omega
      rw [e] at hk hk'
      simp at hk hk'
      subst hk; subst hk'
      exact ⟨⟨pv, rfl, (hp.mod hm (fun b hb hh => hd b hh hb)).sub (fun _ h => .inr h)⟩, rfl⟩
end Go.Hg
