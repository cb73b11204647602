/- What takes a change back: the plain words; A row of structs that slices.SortFunc has sorted: what lies there; slices.SortFunc at nodes and edges, by their Ids (undo.again); graph.Load, Copy; undo.gone: what has an Id is taken away; undo.again: nodes and edges are brought back. Conditions: those that each theorem names. -/
import Derived.WalkKit
import Derived.WalkSpells
import Derived.WalkLawsBesides
import Derived.Lib.Hide
import Derived.BigQuiet
import Derived.Deep.LoopGhost
import Derived.Maps.OwnOps
import Derived.Maps.OwnSet
import Derived.Carry
import Derived.Test.YtfachjfohhhgeaaGreatRows
import Derived.Lib.SlKeysI
import Derived.Lib.SliceRun
import Derived.WideMake
import Derived.Deep.RegionLaw
import Derived.Lib.Overlaps
import Derived.Deep.RegionHeld3
import Derived.Laws.ResultCell
import Derived.Shelf.SlSortCmp.WholeK
import Derived.Laws.EntriesVeiled
import Derived.Test.YtfachjfohhhgeaaGreatUdG
namespace Go.Hg

theorem fil_fil (l : List PProp) (name : ByteArray) : fil (fil l name) name = fil l name := by
  unfold fil
  rw [List.filter_filter]
  simp
theorem fil_ins {l : List PProp} {name : ByteArray} {v : PVal} (h : ∀ p ∈ l, p.name ≠ name) : fil (ins l ⟨name, v⟩) name = l := by
  unfold fil ins
  rw [List.filter_append, List.filter_cons]
  rw [List.filter_eq_self.2 (fun p hp => by simpa using h p ((List.takeWhile_sublist _).mem hp)), List.filter_eq_self.2 (fun p hp => by simpa using h p ((List.dropWhile_sublist _).mem hp))]
  simp [List.takeWhile_append_dropWhile]
theorem fil_setP (l : List PProp) (name : ByteArray) (v : PVal) : fil (setP l name v) name = fil l name := by
  unfold setP
  split
  · exact fil_fil l name
  · exact fil_ins (fun p hp => fil_ne p hp)
theorem fil_none {l : List PProp} {name : ByteArray} (h : getP l name = none) : fil l name = l := by
  unfold fil
  refine List.filter_eq_self.2 fun p hp => ?_
  unfold getP at h
  rw [Option.map_eq_none_iff, List.find?_eq_none] at h
  simpa using h p hp
theorem ins_back {l : List PProp} {name : ByteArray} {u : PVal} (hl : PropsP l) (h : getP l name = some u) : ins (fil l name) ⟨name, u⟩ = l ∧ GoodV u := by
  unfold getP at h
  obtain ⟨p, hp, rfl⟩ := Option.map_eq_some_iff.1 h
  have hpn : p.name = name := by simpa using List.find?_some hp
  subst hpn
  have hmem : p ∈ l := List.mem_of_find?_eq_some hp
  refine ⟨?_, (hl.1 p hmem).2⟩
  obtain ⟨A, B, rfl⟩ := List.append_of_mem hmem
  have h2 := hl.2
  rw [List.pairwise_append, List.pairwise_cons] at h2
  obtain ⟨-, ⟨hB, -⟩, hA⟩ := h2
  have hA' : ∀ q ∈ A, ltS q.name p.name = true := fun q hq => hA q hq p (by simp)
  have hAn : ∀ q ∈ A, q.name ≠ p.name := fun q hq e => by have := hA' q hq; rw [e, ltS_irrefl] at this; cases this
  have hBn : ∀ q ∈ B, q.name ≠ p.name := fun q hq e => by have := hB q hq; rw [e, ltS_irrefl] at this; cases this
  have e : fil (A ++ p :: B) p.name = A ++ B := by
    unfold fil
    rw [List.filter_append, List.filter_cons, List.filter_eq_self.2 (fun q hq => by simpa using hAn q hq), List.filter_eq_self.2 (fun q hq => by simpa using hBn q hq)]
    simp
  rw [e]
  unfold ins
  have t1 : (A ++ B).takeWhile (fun q => ltS q.name p.name) = A := by
    rw [List.takeWhile_append_of_pos (fun q hq => hA' q hq)]
    cases B with
    | nil => simp
    | cons b t => rw [List.takeWhile_cons_of_neg (by rw [ltS_asymm (hB b (by simp))]; simp)]; simp
  have t2 : (A ++ B).dropWhile (fun q => ltS q.name p.name) = B := by
    rw [List.dropWhile_append_of_pos (fun q hq => hA' q hq)]
    cases B with
    | nil => simp
    | cons b t => rw [List.dropWhile_cons_of_neg (by rw [ltS_asymm (hB b (by simp))]; simp)]
  show (A ++ B).takeWhile _ ++ p :: (A ++ B).dropWhile _ = _
  rw [t1, t2]
theorem setP_back {l : List PProp} (hl : PropsP l) (name : ByteArray) (v : PVal) : setP (setP l name v) name (getV l name) = l ∧ (GoodV (getV l name) ∨ BlankV (getV l name)) := by
  cases h : getP l name with
  | none =>
    have e : getV l name = ⟨0, 0, ByteArray.empty⟩ := by unfold getV; rw [h]; rfl
    rw [e]
    refine ⟨?_, .inr ⟨rfl, rfl, rfl⟩⟩
    unfold setP
    rw [if_pos rfl]
    change fil (setP l name v) name = l
    rw [fil_setP, fil_none h]
  | some u =>
    have e : getV l name = u := by unfold getV; rw [h]; rfl
    rw [e]
    obtain ⟨h1, h2⟩ := ins_back hl h
    refine ⟨?_, .inl h2⟩
    have hk : u.kind ≠ 0 := by
      rcases h2 with ⟨h, _⟩ | ⟨h, _⟩ | ⟨h, _⟩ <;> omega
    rw [setP, if_neg hk, fil_setP]
    exact h1

def noC : PCat := ⟨[], [], [], [], 0⟩
def wasOp (o : POp) (v : PVal) : POp := ⟨5, o.id, ByteArray.empty, 0, 0, o.name, v, false⟩
theorem one_id {α : Type} {f : α → Int} {l : List α} (hs : (l.map f).Pairwise (· < ·)) {x y : α} (hx : x ∈ l) (hy : y ∈ l) (h : f x = f y) : x = y := by
  obtain ⟨i, hi⟩ := List.getElem?_of_mem hx
  obtain ⟨j, hj⟩ := List.getElem?_of_mem hy
  have h1 := find_idx f hs hi rfl
  have h2 := find_idx f hs hj h.symm
  rw [h1] at h2
  simpa using h2
theorem set_back {G : PGraph} {o : POp} (hi : GInv G) (hx : GoodX G) {ps : List PProp} (hp : findP G o.id = some ps) (hn : NameOk o.name) :
    mayG noC (wasOp o (getV ps o.name)) (setPropG o G) = 0 ∧ doG (wasOp o (getV ps o.name)) (setPropG o G) = G := by
  have hd : ∀ H, doG (wasOp o (getV ps o.name)) H = setPropG (wasOp o (getV ps o.name)) H := fun H => rfl
  rw [hd]
  unfold findP at hp
  unfold mayG
  rw [if_neg (by show ¬ (5 : Int) = 1; omega), if_neg (by show ¬ (5 : Int) = 2; omega), if_neg (by show ¬ (5 : Int) = 3; omega), if_neg (by show ¬ (5 : Int) = 4; omega), if_pos (show (wasOp o (getV ps o.name)).kind = 5 from rfl)]
  unfold setPropG
  by_cases hN : hasN G o.id = true
  · rw [if_pos hN]
    obtain ⟨x, hxm, hxi⟩ := hasN_true.1 hN
    obtain ⟨i, hxg⟩ := List.getElem?_of_mem hxm
    have hf := find_idx (fun x : PNode => x.id) hi.nodes hxg hxi
    rw [hf] at hp
    simp only [Option.some.injEq] at hp
    subst hp
    have hps := propsOk_iff.1 (hx.nodes x hxm).2
    obtain ⟨hb1, hb2⟩ := setP_back hps.2 o.name o.v
    have hnd : (List.map (fun x => x.id) (G.nodes.map fun x => if x.id = o.id then (⟨x.id, x.typ, setP x.props o.name o.v⟩ : PNode) else x)) = G.nodes.map (·.id) := by
      rw [List.map_map]
      refine List.map_congr_left fun y _ => ?_
      simp only [Function.comp]
      split <;> rfl
    have hN2 : hasN ⟨G.nodes.map fun x => if x.id = o.id then (⟨x.id, x.typ, setP x.props o.name o.v⟩ : PNode) else x, G.edges, G.next⟩ (wasOp o (getV x.props o.name)).id = true :=
      hasN_true.2 ⟨⟨x.id, x.typ, setP x.props o.name o.v⟩, List.mem_map.2 ⟨x, hxm, by rw [if_pos hxi]⟩, hxi⟩
    have hf2 : findP ⟨G.nodes.map fun x => if x.id = o.id then (⟨x.id, x.typ, setP x.props o.name o.v⟩ : PNode) else x, G.edges, G.next⟩ o.id = some (setP x.props o.name o.v) := by
      unfold findP
      have hg : (G.nodes.map fun x => if x.id = o.id then (⟨x.id, x.typ, setP x.props o.name o.v⟩ : PNode) else x)[i]? = some ⟨x.id, x.typ, setP x.props o.name o.v⟩ := by
        rw [List.getElem?_map, hxg, Option.map_some, if_pos hxi]
      have := find_idx (fun x : PNode => x.id) (by rw [hnd]; exact hi.nodes) hg hxi
      dsimp only
      rw [this]
    refine ⟨?_, ?_⟩
    · rw [if_neg (by
        rintro (h | ⟨h1, h2⟩)
        · exact h hn
        · exact hb2.elim h1 h2)]
      show (match findP _ o.id with | none => _ | some qs => _) = _
      rw [hf2]
      show (if 8 < (setP (setP x.props o.name o.v) o.name (getV x.props o.name)).length then (3 : Int) else 0) = 0
      rw [hb1, if_neg (by have := hps.1; omega)]
    · rw [if_pos hN2]
      cases G with
      | mk nodes edges next =>
      dsimp only at *
      congr 1
      rw [List.map_map]
      conv => rhs; rw [← List.map_id nodes]
      refine List.map_congr_left fun y hy => ?_
      simp only [Function.comp, id_eq]
      by_cases hyi : y.id = o.id
      · have : y = x := one_id hi.nodes hy hxm (by rw [hyi, hxi])
        subst this
        rw [if_pos hyi]
        show (if y.id = o.id then _ else _) = _
        rw [if_pos hyi]
        show (⟨y.id, y.typ, setP (setP y.props o.name o.v) o.name (getV y.props o.name)⟩ : PNode) = y
        rw [hb1]
      · rw [if_neg hyi]
        show (if y.id = o.id then _ else _) = _
        rw [if_neg hyi]
  · have hN' : hasN G o.id = false := by simpa using hN
    rw [if_neg hN]
    rw [find_none (fun x : PNode => x.id) hN'] at hp
    cases hf : G.edges.find? fun x => decide (x.id = o.id) with
    | none => rw [hf] at hp; simp at hp
    | some x =>
      rw [hf] at hp
      simp only [Option.some.injEq] at hp
      subst hp
      have hxm := List.mem_of_find?_eq_some hf
      have hxi : x.id = o.id := by simpa using List.find?_some hf
      obtain ⟨i, hxg⟩ := List.getElem?_of_mem hxm
      have hps := propsOk_iff.1 (hx.edges x hxm).2.2.2.2
      obtain ⟨hb1, hb2⟩ := setP_back hps.2 o.name o.v
      have hnd : (List.map (fun x => x.id) (G.edges.map fun x => if x.id = o.id then (⟨x.id, x.typ, x.from_, x.to_, setP x.props o.name o.v⟩ : PEdge) else x)) = G.edges.map (·.id) := by
        rw [List.map_map]
        refine List.map_congr_left fun y _ => ?_
        simp only [Function.comp]
        split <;> rfl
      have hN2 : ¬ hasN ⟨G.nodes, G.edges.map fun x => if x.id = o.id then (⟨x.id, x.typ, x.from_, x.to_, setP x.props o.name o.v⟩ : PEdge) else x, G.next⟩ (wasOp o (getV x.props o.name)).id = true := hN
      have hf2 : findP ⟨G.nodes, G.edges.map fun x => if x.id = o.id then (⟨x.id, x.typ, x.from_, x.to_, setP x.props o.name o.v⟩ : PEdge) else x, G.next⟩ o.id = some (setP x.props o.name o.v) := by
        unfold findP
        have hg : (G.edges.map fun x => if x.id = o.id then (⟨x.id, x.typ, x.from_, x.to_, setP x.props o.name o.v⟩ : PEdge) else x)[i]? = some ⟨x.id, x.typ, x.from_, x.to_, setP x.props o.name o.v⟩ := by
          rw [List.getElem?_map, hxg, Option.map_some, if_pos hxi]
        have := find_idx (fun x : PEdge => x.id) (by rw [hnd]; exact hi.edges) hg hxi
        dsimp only
        rw [find_none (fun x : PNode => x.id) hN', this]
      refine ⟨?_, ?_⟩
      · rw [if_neg (by
          rintro (h | ⟨h1, h2⟩)
          · exact h hn
          · exact hb2.elim h1 h2)]
        show (match findP _ o.id with | none => _ | some qs => _) = _
        rw [hf2]
        show (if 8 < (setP (setP x.props o.name o.v) o.name (getV x.props o.name)).length then (3 : Int) else 0) = 0
        rw [hb1, if_neg (by have := hps.1; omega)]
      · rw [if_neg hN2]
        cases G with
        | mk nodes edges next =>
        dsimp only at *
        congr 1
        rw [List.map_map]
        conv => rhs; rw [← List.map_id edges]
        refine List.map_congr_left fun y hy => ?_
        simp only [Function.comp, id_eq]
        by_cases hyi : y.id = o.id
        · have : y = x := one_id hi.edges hy hxm (by rw [hyi, hxi])
          subst this
          rw [if_pos hyi]
          show (if y.id = o.id then _ else _) = _
          rw [if_pos hyi]
          show (⟨y.id, y.typ, y.from_, y.to_, setP (setP y.props o.name o.v) o.name (getV y.props o.name)⟩ : PEdge) = y
          rw [hb1]
        · rw [if_neg hyi]
          show (if y.id = o.id then _ else _) = _
          rw [if_neg hyi]

theorem gone_node {G : PGraph} (hi : GInv G) (o : POp) : (⟨(addNodeG o G).nodes.filter fun x => !decide (x.id = G.next), (addNodeG o G).edges.filter fun x => !decide (x.id = G.next), G.next⟩ : PGraph) = G := by
  cases G with
  | mk nodes edges next =>
  unfold addNodeG
  dsimp only
  rw [List.filter_append, List.filter_eq_self.2 (show ∀ x ∈ nodes, (!decide (x.id = next)) = true from fun x hx => by have h : x.id < next := (hi.nodesB x hx).2.1; simp; omega), List.filter_eq_self.2 (show ∀ x ∈ edges, (!decide (x.id = next)) = true from fun x hx => by have h : x.id < next := (hi.edgesB x hx).2.1; simp; omega)]
  simp
theorem gone_edge {G : PGraph} (hi : GInv G) (o : POp) : (⟨(addEdgeG o G).nodes.filter fun x => !decide (x.id = G.next), (addEdgeG o G).edges.filter fun x => !decide (x.id = G.next), G.next⟩ : PGraph) = G := by
  cases G with
  | mk nodes edges next =>
  unfold addEdgeG
  dsimp only
  rw [List.filter_append, List.filter_eq_self.2 (show ∀ x ∈ nodes, (!decide (x.id = next)) = true from fun x hx => by have h : x.id < next := (hi.nodesB x hx).2.1; simp; omega), List.filter_eq_self.2 (show ∀ x ∈ edges, (!decide (x.id = next)) = true from fun x hx => by have h : x.id < next := (hi.edgesB x hx).2.1; simp; omega)]
  simp
theorem perm_filter {α : Type} (p : α → Bool) (l : List α) : ((l.filter fun x => !p x) ++ l.filter p).Perm l :=
  (List.perm_append_comm).trans (List.filter_append_perm p l)
theorem filter_one {α : Type} {f : α → Int} {l : List α} (hs : (l.map f).Pairwise (· < ·)) {x : α} (hx : x ∈ l) : (l.filter fun y => decide (f y = f x)) = [x] := by
  obtain ⟨A, B, rfl⟩ := List.append_of_mem hx
  have h1 : ∀ y ∈ A, f y < f x := fun y hy => by
    rw [List.map_append, List.pairwise_append] at hs
    exact hs.2.2 _ (List.mem_map_of_mem hy) _ (by simp)
  have h2 : ∀ y ∈ B, f x < f y := fun y hy => by
    rw [List.map_append, List.pairwise_append, List.map_cons, List.pairwise_cons] at hs
    exact hs.2.1.1 _ (List.mem_map_of_mem hy)
  rw [List.filter_append, List.filter_cons, List.filter_eq_nil_iff.2 (fun y hy => by have := h1 y hy; simp; omega), List.filter_eq_nil_iff.2 (fun y hy => by have := h2 y hy; simp; omega)]
  simp
theorem sorted_one {α : Type} {f : α → Int} {L l : List α} (hp : L.Perm l) (hs : (l.map f).Pairwise (· < ·)) (hL : L.Pairwise (fun a b => f a ≤ f b)) : L = l := by
  have h2 : l.Pairwise (fun a b => f a ≤ f b) := by
    rw [List.pairwise_map] at hs
    exact hs.imp (fun h => Int.le_of_lt h)
  refine List.Perm.eq_of_pairwise (le := fun a b => f a ≤ f b) ?_ hL h2 hp
  intro a b ha hb hab hba
  exact one_id hs (hp.mem_iff.1 ha) hb (by omega)
theorem again_nodes {G : PGraph} (hi : GInv G) {x : PNode} (hx : x ∈ G.nodes) : ((G.nodes.filter fun y => !decide (y.id = x.id)) ++ [x]).Perm G.nodes := by
  have h := perm_filter (fun y : PNode => decide (y.id = x.id)) G.nodes
  rw [filter_one hi.nodes hx] at h
  exact h
theorem again_edge {G : PGraph} (hi : GInv G) {x : PEdge} (hx : x ∈ G.edges) : ((G.edges.filter fun y => !decide (y.id = x.id)) ++ [x]).Perm G.edges := by
  have h := perm_filter (fun y : PEdge => decide (y.id = x.id)) G.edges
  rw [filter_one hi.edges hx] at h
  exact h
theorem again_edges (G : PGraph) (id : Int) : ((G.edges.filter fun y => !atE y id) ++ G.edges.filter fun y => atE y id).Perm G.edges := perm_filter (fun y => atE y id) G.edges
end Go.Hg

namespace Go.Hg
open Go.RowKit Go.Proofs Go.Sort Go.Shelf

section
variable {α : Type} [Inhabited α] (enc : α → List Value) (k : Nat)
omit [Inhabited α] in
theorem enc_get (hk : ∀ x, (enc x).length = k) (x : α) {j : Nat} (hj : j < k) : (enc x)[j]? = some ((enc x)[j]!) := by
  have hl : j < (enc x).length := by rw [hk]; exact hj
  rw [getElem!_pos (enc x) j hl]
  exact List.getElem?_eq_getElem hl
theorem holdsRow (hk0 : 0 < k) (hk : ∀ x, (enc x).length = k) {w : World} {g : Nat} {cur : Array Value} {T : TypeId} {ds : List α} (hb : w.heap[g]? = some (.cells cur T (0, 0))) (ht : cur.toList.take (ds.length * k) = (ds.map enc).flatten) : HoldsK enc k w g 0 ds.toArray := by
  intro j hj
  have hj2 : j < ds.length * k := by simpa using hj
  have hq : j / k < ds.length := Nat.div_lt_of_lt_mul (by rw [Nat.mul_comm]; exact hj2)
  have hm : j % k < k := Nat.mod_lt _ hk0
  rw [get_flatK _ _ _ j (by simpa using hj2)]
  have e1 : ds.toArray[j / k]! = ds[j / k] := by simp [hq]
  rw [e1]
  have h6 := flatten_at (ds.map enc) k (j / k) (j % k) (enc ds[j / k]) _ (by simpa using fun x _ => hk x) (by simp [hq]) (enc_get enc k hk _ hm)
  have e3 : j / k * k + j % k = j := by rw [Nat.mul_comm]; exact Nat.div_add_mod j k
  rw [e3, ← ht, List.getElem?_take, if_pos hj2] at h6
  refine ⟨?_, blk_free hb _⟩
  refine (blk_cell hb _).trans ?_
  rw [Nat.zero_add]
  simpa using h6
theorem rowHeld (hk : ∀ x, (enc x).length = k) {w : World} {g : Nat} {cur : Array Value} {T : TypeId} {d : Array α} (hb : w.heap[g]? = some (.cells cur T (0, 0))) (hH : HoldsK enc k w g 0 d) : cur.toList.take (d.size * k) = (d.toList.map enc).flatten := by
  refine List.ext_getElem? fun j => ?_
  rw [List.getElem?_take]
  have hfl : (d.toList.map enc).flatten.length = d.size * k := by rw [flatten_len _ k (by simpa using fun x _ => hk x)]; simp
  split
  · rename_i hj
    have hk0 : 0 < k := Nat.pos_of_ne_zero (fun h => by rw [h, Nat.mul_zero] at hj; omega)
    have hq : j / k < d.size := Nat.div_lt_of_lt_mul (by rw [Nat.mul_comm]; exact hj)
    have hm : j % k < k := Nat.mod_lt _ hk0
    have h1 := (hH j (by simpa using hj)).1
    rw [blk_cell hb, get_flatK _ _ _ j hj, Nat.zero_add] at h1
    have h6 := flatten_at (d.toList.map enc) k (j / k) (j % k) (enc d[j / k]!) _ (by simpa using fun x _ => hk x) (by rw [getElem!_pos d (j / k) hq]; simp [hq]) (enc_get enc k hk _ hm)
    rw [show j / k * k + j % k = j by rw [Nat.mul_comm]; exact Nat.div_add_mod j k] at h6
    rw [h6, Array.getElem?_toList]
    exact h1
  · rename_i hj
    rw [List.getElem?_eq_none (by omega)]
theorem sortedBlk {w : World} {g n : Nat} {cur : Array Value} {T : TypeId} {d : Array α} {os : Array Obj} (hb : w.heap[g]? = some (.cells cur T (0, 0))) :
    ∃ cur' : Array Value, (sortWorldK enc k w g 0 n d os).heap[g]? = some (.cells cur' T (0, 0)) ∧ cur'.size = cur.size := by
  refine ⟨putCells id 0 (flatK enc k d) cur, ?_, by simp [putCells]⟩
  unfold sortWorldK putRowK
  have hg : g < (putRow id (Sort.ahead w n) g 0 (flatK enc k d)).heap.size := by simpa [putRow, mapBlock, Sort.ahead] using blk_lt hb
  rw [show (grow (putRow id (Sort.ahead w n) g 0 (flatK enc k d)) os).heap[g]? = (putRow id (Sort.ahead w n) g 0 (flatK enc k d)).heap[g]? from Array.getElem?_append_left hg]
  show ((w.heap).modify g (onCells _))[g]? = _
  rw [Array.getElem?_modify, if_pos rfl, hb]
  rfl
theorem sortedMod {w : World} {g n : Nat} {d : Array α} {os : Array Obj} : Mod (fun b => some g = some b) w (sortWorldK enc k w g 0 n d os) := by
  unfold sortWorldK putRowK
  refine ⟨rfl, rfl, rfl, ?_, fun j hj hne => ?_⟩
  · show w.heap.size ≤ ((w.heap.modify g _) ++ os).size
    rw [Array.size_append, Array.size_modify]
    omega
  · show ((w.heap.modify g _) ++ os)[j]? = _
    rw [Array.getElem?_append_left (by simpa using hj), Array.getElem?_modify, if_neg (fun e => hne (by rw [e]))]
end
def cmpZ (a b : Int) : Int := if a < b then -1 else if b < a then 1 else 0
section
variable {α : Type} [Inhabited α] (f : α → Int)
def cmpBy (a b : α) : Int := cmpZ (f a) (f b)
omit [Inhabited α] in
theorem cmpBy_lt (a b : α) : ltOf (cmpBy f) a b = decide (f a < f b) := by
  unfold ltOf cmpBy cmpZ
  by_cases h1 : f a < f b
  · simp [h1]
  · by_cases h2 : f b < f a <;> simp [h1, h2]
omit [Inhabited α] in
theorem swoBy : SWO (ltOf (cmpBy f)) where
  irrefl x := by rw [cmpBy_lt]; simp
  trans x y z h1 h2 := by rw [cmpBy_lt] at *; simp at *; omega
  ntrans x y z h1 h2 := by rw [cmpBy_lt] at *; simp at *; omega
theorem sortedBy {d d' : Array α} (hp : PermIn 0 d.size d d') (hs : SortedIn (ltOf (cmpBy f)) 0 d.size d') : d'.toList.Perm d.toList ∧ d'.toList.Pairwise (fun a b => f a ≤ f b) := by
  obtain ⟨h1, -, h2⟩ := hp
  have e1 : d.extract 0 d.size = d := by simp
  have e2 : d'.extract 0 d.size = d' := by rw [← h1]; simp
  rw [e1, e2] at h2
  refine ⟨h2, ?_⟩
  rw [List.pairwise_iff_getElem]
  intro i j hi hj hij
  have h3 := hs i j (Nat.zero_le _) hij (by rw [← h1]; simpa using hj)
  rw [cmpBy_lt, getElem!_pos d' i (by simpa using hi), getElem!_pos d' j (by simpa using hj)] at h3
  simp at h3
  simpa using h3
end
def LaidU (w w' : World) : Prop := ∃ q os, w' = grow (w.drewN q) os
theorem LaidU.trans {a b c : World} (h : LaidU a b) (k : LaidU b c) : LaidU a c := by
  obtain ⟨q, os, rfl⟩ := h
  obtain ⟨q', os', rfl⟩ := k
  refine ⟨q + q', os ++ os', ?_⟩
  unfold grow World.drewN
  simp [Nat.add_assoc]
theorem LaidU.alloc (w : World) (o : Obj) : LaidU w (w.alloc o) := ⟨0, #[o], by unfold grow World.drewN World.alloc; simp⟩
theorem LaidU.alloc2 (w : World) (o o' : Obj) : LaidU w ((w.alloc o).alloc o') := (LaidU.alloc _ _).trans (LaidU.alloc _ _)

set_option maxRecDepth 100000 in
theorem nanL (x : Int) (w : World) : Calls Tryz.prog 127 #[.int .i64 x] w fun e w' => e = .returned (.bool false) ∧ w' = w := by
  go_enter Tryz.func127, Tryz.ntmps127
  go_wp2
  go_ret
  exact ⟨by simp, rfl⟩
set_option maxRecDepth 100000 in
theorem cmpCompareL (a b : Int) (w : World) : Calls Tryz.prog 101 #[.int .i64 a, .int .i64 b] w fun e w' => e = .returned (.int .i64 (cmpZ a b)) ∧ w' = w := by
  unfold cmpZ
  go_enter Tryz.func101, Tryz.ntmps101
  go_wp2_with fail
  refine (nanL a w).mono ?_
  rintro e w2 ⟨rfl, rfl⟩
  go_wp2_with fail
  refine (nanL b w2).mono ?_
  rintro e w3 ⟨rfl, rfl⟩
  by_cases h1 : a < b
  · go_wp2
    go_ret
    exact ⟨by simp, rfl⟩
  · by_cases h2 : b < a
    · go_wp2
      go_ret
      exact ⟨by simp, rfl⟩
    · go_wp2
      go_ret
      exact ⟨by simp, rfl⟩
end Go.Hg

namespace Go.Hg
open Go.RowKit Go.Proofs Go.Sort Go.Shelf

instance : Inhabited PNode := ⟨⟨0, ByteArray.empty, []⟩⟩
instance : Inhabited PEdge := ⟨⟨0, ByteArray.empty, 0, 0, []⟩⟩

abbrev NRow := PNode × Option Addr × Nat × Nat
def NRow.cs (r : NRow) : List Value := [.int .i64 r.1.id, .string r.1.typ, .slice r.2.1 r.2.2.1 r.2.2.2]
def NRow.id (r : NRow) : Int := r.1.id
theorem NRow.one (r : NRow) : ∀ u ∈ NRow.cs r, u.oneCell' = true := by
  intro u hu
  simp only [NRow.cs, List.mem_cons, List.not_mem_nil, or_false] at hu
  rcases hu with rfl | rfl | rfl <;> rfl
theorem rowsN {S : Nat → Prop} {w : World} : ∀ {l : List PNode} {rows : List (List Value)}, rows.length = l.length → (∀ (k : Nat) x r, l[k]? = some x → rows[k]? = some r → RNode S w x r) →
    ∃ ds : List NRow, ds.map (·.1) = l ∧ ds.map NRow.cs = rows ∧ ∀ d ∈ ds, PropsR S w (.slice d.2.1 d.2.2.1 d.2.2.2) d.1.props
  | [], [], _, _ => ⟨[], rfl, rfl, by simp⟩
  | [], _ :: _, h, _ => by simp at h
  | _ :: _, [], h, _ => by simp at h
  | x :: l, r :: rows, h, hR => by
    obtain ⟨ds, h1, h2, h3⟩ := rowsN (l := l) (rows := rows) (by simpa using h) (fun k y s hy hs => hR (k + 1) y s (by simpa using hy) (by simpa using hs))
    obtain ⟨pv, rfl, hp⟩ := hR 0 x r rfl rfl
    obtain ⟨a, c, rfl⟩ := hp.isSlice
    refine ⟨(x, a, x.props.length, c) :: ds, by simp [h1], by simp [h2, NRow.cs], fun d hd => ?_⟩
    rcases List.mem_cons.1 hd with rfl | hd
    · exact hp
    · exact h3 d hd
set_option maxRecDepth 100000 in
set_option maxHeartbeats 1000000 in
theorem againNCmp (x y : NRow) (w : World) : Calls Tryz.prog 100 #[.agg ((NRow.cs x).toArray), .agg ((NRow.cs y).toArray)] w fun e w' => e = .returned (.int .i64 (cmpBy NRow.id x y)) ∧ LaidU w w' := by
  show Calls Tryz.prog 100 #[.agg #[.int .i64 x.1.id, .string x.1.typ, .slice x.2.1 x.2.2.1 x.2.2.2], .agg #[.int .i64 y.1.id, .string y.1.typ, .slice y.2.1 y.2.2.1 y.2.2.2]] w _
  have HL := Lib.hid (LaidU.alloc2 w)
  have HC := Lib.hid (show cmpBy NRow.id x y = cmpZ x.1.id y.1.id from rfl)
  obtain ⟨x, xa, xn, xc⟩ := x
  obtain ⟨y, ya, yn, yc⟩ := y
  dsimp only at HC ⊢
  go_enter Tryz.func100, Tryz.ntmps100
  go_wp2_with fail
  refine (cmpCompareL x.id y.id _).mono ?_
  rintro e w' ⟨rfl, rfl⟩
  go_wp2
  go_ret
  exact ⟨by rw [HC.out]; rfl, HL.out _ _⟩
set_option maxRecDepth 100000 in
set_option maxHeartbeats 2000000 in
theorem insNNone (p : Option Addr) (cap : Nat) (fv : Value) (w : World) :
    Calls Tryz.prog 140 #[.slice p 0 cap, .int .i64 0, .int .i64 0, fv] w fun e w' => e = .returned (.tuple #[]) ∧ w' = w := by
  go_enter Tryz.func140, Tryz.ntmps140
  go_wp2
  refine wp_loop_rounds 1 ?_
  rw [rounds_succ]
  go_wp2
  go_end0
  exact ⟨rfl, rfl⟩
set_option maxRecDepth 100000 in
set_option maxHeartbeats 2000000 in
theorem pdqNNone (p : Option Addr) (cap : Nat) (lim : Int) (fv : Value) (w : World) :
    Calls Tryz.prog 125 #[.slice p 0 cap, .int .i64 0, .int .i64 0, .int .i64 lim, fv] w fun e w' => e = .returned (.tuple #[]) ∧ w' = w := by
  go_enter Tryz.func125, Tryz.ntmps125
  go_wp2
  refine wp_loop_rounds 1 ?_
  rw [rounds_succ]
  go_wp2_with (go_at_call 140; refine (insNNone _ _ _ _).mono ?_; rintro e w' ⟨rfl, rfl⟩)
  (try simp only [Exit.inBlock, Exit.then]); refine bodyPost_ret (results_none rfl _ _ _) rfl ?_
  exact ⟨rfl, rfl⟩
set_option maxRecDepth 100000 in
set_option maxHeartbeats 2000000 in
theorem sortNNone (p : Option Addr) (cap : Nat) (fv : Value) (w : World) :
    Calls Tryz.prog 99 #[.slice p 0 cap, fv] w fun e w' => e = .returned (.tuple #[]) ∧ w' = w := by
  have hl : ∀ W, Calls Tryz.prog 126 #[.int .u64 0] W fun e w' => e = .returned (.int .i64 (Lib.bitLen 0 : Nat)) ∧ w' = W := fun W => by
    have h := Any.bits_Len (SlLaysF0.n15.bits (P := Tryz.prog) (ρ := sortFN_ren) { sortFN with }) 0 W (by omega) (by omega)
    exact h
  go_enter Tryz.func99, Tryz.ntmps99
  go_wp2_with (first | (go_at_call 126; refine (hl _).mono ?_; rintro e w' ⟨rfl, rfl⟩) | (go_at_call 125; refine (pdqNNone _ _ _ _ _).mono ?_; rintro e w' ⟨rfl, rfl⟩))
  go_end0
  exact ⟨rfl, rfl⟩
theorem sortN (R : Nat → Prop) (v : Value) (l : List PNode) (ob : Option Nat) (w : World) (hown : OwnL w 89 3 (RNode R w) v l ob) (hR : ∀ g, ob = some g → ¬ R g) (hlen : l.length ≤ 65536) :
    Calls Tryz.prog 99 #[v, .func (.func 100) #[] #[]] w fun e w' => e = .returned (.tuple #[]) ∧ ∃ L, L.Perm l ∧ L.Pairwise (fun a b => a.id ≤ b.id) ∧ OwnL w' 89 3 (RNode R w') v L ob ∧ Mod (fun b => ob = some b) w w' := by
  by_cases h0 : l.length = 0
  · have e0 := List.eq_nil_of_length_eq_zero h0
    subst e0
    obtain ⟨a, c, rfl⟩ : ∃ a c, v = .slice a 0 c := by obtain ⟨_, _, _, h⟩ := hown; obtain ⟨oa, cap, h, _⟩ := h.isSlice; exact ⟨oa, cap, h⟩
    refine (sortNNone a c _ w).mono ?_
    rintro e w' ⟨rfl, hw⟩
    subst hw
    exact ⟨rfl, [], List.Perm.nil, List.Pairwise.nil, hown, Mod.rfl' _ _⟩
  · obtain ⟨rows, hr1, hr2, hr3⟩ := hown
    rcases hr3.2 with ⟨_, _, h, _⟩ | ⟨g, cap, cur, rfl, hob, hgb, k1, k2, k3, k4⟩
    · exact absurd h h0
    subst hob
    obtain ⟨ds, d1, d2, d3⟩ := rowsN (S := R) (w := w) hr1 (fun k x r hx hr => (hr2 k x r hx hr).1)
    have hdl : ds.length = l.length := by rw [← d1, List.length_map]
    have hH : HoldsK NRow.cs 3 w g 0 ds.toArray := holdsRow NRow.cs 3 (by omega) (fun _ => rfl) hgb (by rw [hdl, d2]; exact k4)
    have hgl : g < w.heap.size := blk_lt hgb
    have hcmp : CmpLays Tryz.prog 100 #[] NRow.cs 3 (cmpBy NRow.id) g 0 ds.toArray.size w := fun m os dk _ x y => (againNCmp x y _).mono fun e w' h => h
    have h := AnyQ.slices_SortFunc sortFN 3 Tryz.isAgg89 Tryz.sizeOf89 NRow.cs (fun _ => rfl) NRow.one (cmpBy NRow.id) (swoBy NRow.id) 100 #[] g 0 cap ds.toArray w (enters_of Tryz.func100 (by kernel_rfl) rfl) hcmp hH hgl (by simp; omega)
    have e0 : ds.toArray.size = l.length := by simpa using hdl
    rw [e0] at h
    refine h.mono ?_
    rintro e w' ⟨rfl, d', n, os, hp, hs, rfl⟩
    rw [← e0] at hp hs
    have hsz : d'.size = ds.toArray.size := hp.1
    obtain ⟨p1, p2⟩ := sortedBy NRow.id hp hs
    obtain ⟨cur', c1, c2⟩ := sortedBlk NRow.cs 3 (w := w) (g := g) (n := n) (d := d') (os := os) hgb
    have hH' := holdsK_sortWorldK_c NRow.cs 3 w g 0 ds.toArray d' n os hH hgl hsz
    have ht := rowHeld NRow.cs 3 (fun _ => rfl) c1 hH'
    have hm : Mod (fun b => some g = some b) w (sortWorldK NRow.cs 3 w g 0 n d' os) := sortedMod NRow.cs 3
    have hdl' : d'.size = l.length := hsz.trans e0
    refine ⟨rfl, d'.toList.map (·.1), ?_, ?_, ⟨d'.toList.map NRow.cs, by simp, fun k x r hx hr => ?_, ?_⟩, hm⟩
    · have h2 := p1.map (fun d : NRow => d.1)
      rw [← d1]
      exact h2
    · rw [List.pairwise_map]
      exact p2
    · rw [List.getElem?_map] at hx hr
      obtain ⟨q, hq, rfl⟩ := Option.map_eq_some_iff.1 hx
      rw [hq] at hr
      simp only [Option.map_some, Option.some.injEq] at hr
      subst hr
      have hmem : q ∈ ds := by
        have := p1.mem_iff.1 (List.mem_of_getElem? hq)
        simpa using this
      exact ⟨⟨_, rfl, (d3 q hmem).mod hm (fun b hb hh => hR b hh hb)⟩, rfl⟩
    · refine ⟨by rw [flatten_len _ 3 (by intro r hr; obtain ⟨q, -, rfl⟩ := List.mem_map.1 hr; rfl)]; simp, .inr ⟨g, cap, cur', ?_, rfl, c1, ?_, k2, by rw [c2]; exact k3, ?_⟩⟩
      · simp [hdl']
      · simpa [hdl'] using k1
      · rw [← ht]
        simp

abbrev ERow := PEdge × Option Addr × Nat × Nat
def ERow.cs (r : ERow) : List Value := [.int .i64 r.1.id, .string r.1.typ, .int .i64 r.1.from_, .int .i64 r.1.to_, .slice r.2.1 r.2.2.1 r.2.2.2]
def ERow.id (r : ERow) : Int := r.1.id
theorem ERow.one (r : ERow) : ∀ u ∈ ERow.cs r, u.oneCell' = true := by
  intro u hu
  simp only [ERow.cs, List.mem_cons, List.not_mem_nil, or_false] at hu
  rcases hu with rfl | rfl | rfl | rfl | rfl <;> rfl
theorem rowsE {S : Nat → Prop} {w : World} : ∀ {l : List PEdge} {rows : List (List Value)}, rows.length = l.length → (∀ (k : Nat) x r, l[k]? = some x → rows[k]? = some r → REdge S w x r) →
    ∃ ds : List ERow, ds.map (·.1) = l ∧ ds.map ERow.cs = rows ∧ ∀ d ∈ ds, PropsR S w (.slice d.2.1 d.2.2.1 d.2.2.2) d.1.props
  | [], [], _, _ => ⟨[], rfl, rfl, by simp⟩
  | [], _ :: _, h, _ => by simp at h
  | _ :: _, [], h, _ => by simp at h
  | x :: l, r :: rows, h, hR => by
    obtain ⟨ds, h1, h2, h3⟩ := rowsE (l := l) (rows := rows) (by simpa using h) (fun k y s hy hs => hR (k + 1) y s (by simpa using hy) (by simpa using hs))
    obtain ⟨pv, rfl, hp⟩ := hR 0 x r rfl rfl
    obtain ⟨a, c, rfl⟩ := hp.isSlice
    refine ⟨(x, a, x.props.length, c) :: ds, by simp [h1], by simp [h2, ERow.cs], fun d hd => ?_⟩
    rcases List.mem_cons.1 hd with rfl | hd
    · exact hp
    · exact h3 d hd
set_option maxRecDepth 100000 in
set_option maxHeartbeats 1000000 in
theorem againECmp (x y : ERow) (w : World) : Calls Tryz.prog 103 #[.agg ((ERow.cs x).toArray), .agg ((ERow.cs y).toArray)] w fun e w' => e = .returned (.int .i64 (cmpBy ERow.id x y)) ∧ LaidU w w' := by
  show Calls Tryz.prog 103 #[.agg #[.int .i64 x.1.id, .string x.1.typ, .int .i64 x.1.from_, .int .i64 x.1.to_, .slice x.2.1 x.2.2.1 x.2.2.2], .agg #[.int .i64 y.1.id, .string y.1.typ, .int .i64 y.1.from_, .int .i64 y.1.to_, .slice y.2.1 y.2.2.1 y.2.2.2]] w _
  have HL := Lib.hid (LaidU.alloc2 w)
  have HC := Lib.hid (show cmpBy ERow.id x y = cmpZ x.1.id y.1.id from rfl)
  obtain ⟨x, xa, xn, xc⟩ := x
  obtain ⟨y, ya, yn, yc⟩ := y
  dsimp only at HC ⊢
  go_enter Tryz.func103, Tryz.ntmps103
  go_wp2_with fail
  refine (cmpCompareL x.id y.id _).mono ?_
  rintro e w' ⟨rfl, rfl⟩
  go_wp2
  go_ret
  exact ⟨by rw [HC.out]; rfl, HL.out _ _⟩
set_option maxRecDepth 100000 in
set_option maxHeartbeats 2000000 in
theorem insENone (p : Option Addr) (cap : Nat) (fv : Value) (w : World) :
    Calls Tryz.prog 150 #[.slice p 0 cap, .int .i64 0, .int .i64 0, fv] w fun e w' => e = .returned (.tuple #[]) ∧ w' = w := by
  go_enter Tryz.func150, Tryz.ntmps150
  go_wp2
  refine wp_loop_rounds 1 ?_
  rw [rounds_succ]
  go_wp2
  go_end0
  exact ⟨rfl, rfl⟩
set_option maxRecDepth 100000 in
set_option maxHeartbeats 2000000 in
theorem pdqENone (p : Option Addr) (cap : Nat) (lim : Int) (fv : Value) (w : World) :
    Calls Tryz.prog 128 #[.slice p 0 cap, .int .i64 0, .int .i64 0, .int .i64 lim, fv] w fun e w' => e = .returned (.tuple #[]) ∧ w' = w := by
  go_enter Tryz.func128, Tryz.ntmps128
  go_wp2
  refine wp_loop_rounds 1 ?_
  rw [rounds_succ]
  go_wp2_with (go_at_call 150; refine (insENone _ _ _ _).mono ?_; rintro e w' ⟨rfl, rfl⟩)
  (try simp only [Exit.inBlock, Exit.then]); refine bodyPost_ret (results_none rfl _ _ _) rfl ?_
  exact ⟨rfl, rfl⟩
set_option maxRecDepth 100000 in
set_option maxHeartbeats 2000000 in
theorem sortENone (p : Option Addr) (cap : Nat) (fv : Value) (w : World) :
    Calls Tryz.prog 102 #[.slice p 0 cap, fv] w fun e w' => e = .returned (.tuple #[]) ∧ w' = w := by
  have hl : ∀ W, Calls Tryz.prog 126 #[.int .u64 0] W fun e w' => e = .returned (.int .i64 (Lib.bitLen 0 : Nat)) ∧ w' = W := fun W => by
    have h := Any.bits_Len (SlLaysF0.n15.bits (P := Tryz.prog) (ρ := sortFE_ren) { sortFE with }) 0 W (by omega) (by omega)
    exact h
  go_enter Tryz.func102, Tryz.ntmps102
  go_wp2_with (first | (go_at_call 126; refine (hl _).mono ?_; rintro e w' ⟨rfl, rfl⟩) | (go_at_call 128; refine (pdqENone _ _ _ _ _).mono ?_; rintro e w' ⟨rfl, rfl⟩))
  go_end0
  exact ⟨rfl, rfl⟩
theorem sortE (R : Nat → Prop) (v : Value) (l : List PEdge) (ob : Option Nat) (w : World) (hown : OwnL w 91 5 (REdge R w) v l ob) (hR : ∀ g, ob = some g → ¬ R g) (hlen : l.length ≤ 65536) :
    Calls Tryz.prog 102 #[v, .func (.func 103) #[] #[]] w fun e w' => e = .returned (.tuple #[]) ∧ ∃ L, L.Perm l ∧ L.Pairwise (fun a b => a.id ≤ b.id) ∧ OwnL w' 91 5 (REdge R w') v L ob ∧ Mod (fun b => ob = some b) w w' := by
  by_cases h0 : l.length = 0
  · have e0 := List.eq_nil_of_length_eq_zero h0
    subst e0
    obtain ⟨a, c, rfl⟩ : ∃ a c, v = .slice a 0 c := by obtain ⟨_, _, _, h⟩ := hown; obtain ⟨oa, cap, h, _⟩ := h.isSlice; exact ⟨oa, cap, h⟩
    refine (sortENone a c _ w).mono ?_
    rintro e w' ⟨rfl, hw⟩
    subst hw
    exact ⟨rfl, [], List.Perm.nil, List.Pairwise.nil, hown, Mod.rfl' _ _⟩
  · obtain ⟨rows, hr1, hr2, hr3⟩ := hown
    rcases hr3.2 with ⟨_, _, h, _⟩ | ⟨g, cap, cur, rfl, hob, hgb, k1, k2, k3, k4⟩
    · exact absurd h h0
    subst hob
    obtain ⟨ds, d1, d2, d3⟩ := rowsE (S := R) (w := w) hr1 (fun k x r hx hr => (hr2 k x r hx hr).1)
    have hdl : ds.length = l.length := by rw [← d1, List.length_map]
    have hH : HoldsK ERow.cs 5 w g 0 ds.toArray := holdsRow ERow.cs 5 (by omega) (fun _ => rfl) hgb (by rw [hdl, d2]; exact k4)
    have hgl : g < w.heap.size := blk_lt hgb
    have hcmp : CmpLays Tryz.prog 103 #[] ERow.cs 5 (cmpBy ERow.id) g 0 ds.toArray.size w := fun m os dk _ x y => (againECmp x y _).mono fun e w' h => h
    have h := AnyQ.slices_SortFunc sortFE 5 Tryz.isAgg91 Tryz.sizeOf91 ERow.cs (fun _ => rfl) ERow.one (cmpBy ERow.id) (swoBy ERow.id) 103 #[] g 0 cap ds.toArray w (enters_of Tryz.func103 (by kernel_rfl) rfl) hcmp hH hgl (by simp; omega)
    have e0 : ds.toArray.size = l.length := by simpa using hdl
    rw [e0] at h
    refine h.mono ?_
    rintro e w' ⟨rfl, d', n, os, hp, hs, rfl⟩
    rw [← e0] at hp hs
    have hsz : d'.size = ds.toArray.size := hp.1
    obtain ⟨p1, p2⟩ := sortedBy ERow.id hp hs
    obtain ⟨cur', c1, c2⟩ := sortedBlk ERow.cs 5 (w := w) (g := g) (n := n) (d := d') (os := os) hgb
    have hH' := holdsK_sortWorldK_c ERow.cs 5 w g 0 ds.toArray d' n os hH hgl hsz
    have ht := rowHeld ERow.cs 5 (fun _ => rfl) c1 hH'
    have hm : Mod (fun b => some g = some b) w (sortWorldK ERow.cs 5 w g 0 n d' os) := sortedMod ERow.cs 5
    have hdl' : d'.size = l.length := hsz.trans e0
    refine ⟨rfl, d'.toList.map (·.1), ?_, ?_, ⟨d'.toList.map ERow.cs, by simp, fun k x r hx hr => ?_, ?_⟩, hm⟩
    · have h2 := p1.map (fun d : ERow => d.1)
      rw [← d1]
      exact h2
    · rw [List.pairwise_map]
      exact p2
    · rw [List.getElem?_map] at hx hr
      obtain ⟨q, hq, rfl⟩ := Option.map_eq_some_iff.1 hx
      rw [hq] at hr
      simp only [Option.map_some, Option.some.injEq] at hr
      subst hr
      have hmem : q ∈ ds := by
        have := p1.mem_iff.1 (List.mem_of_getElem? hq)
        simpa using this
      exact ⟨⟨_, rfl, (d3 q hmem).mod hm (fun b hb hh => hR b hh hb)⟩, rfl⟩
    · refine ⟨by rw [flatten_len _ 5 (by intro r hr; obtain ⟨q, -, rfl⟩ := List.mem_map.1 hr; rfl)]; simp, .inr ⟨g, cap, cur', ?_, rfl, c1, ?_, k2, by rw [c2]; exact k3, ?_⟩⟩
      · simp [hdl']
      · simpa [hdl'] using k1
      · rw [← ht]
        simp
end Go.Hg

namespace Go.Hg
open Go.RowKit Go.Proofs

theorem RNode.cut {S : Nat → Prop} {w : World} {x : PNode} {r : List Value} (h : RNode S w x r) : RNode (fun b => S b ∧ b < w.heap.size) w x r := by
  obtain ⟨pv, hr, hp⟩ := h; exact ⟨pv, hr, hp.cut⟩
theorem REdge.cut {S : Nat → Prop} {w : World} {x : PEdge} {r : List Value} (h : REdge S w x r) : REdge (fun b => S b ∧ b < w.heap.size) w x r := by
  obtain ⟨pv, hr, hp⟩ := h; exact ⟨pv, hr, hp.cut⟩
theorem graph_close {T : TypeId} {w2 w3 w4 w5 : World} {B : Nat} {nv ev : Value} {nodes : List PNode} {edges : List PEdge} {next : Int} {on oe : Option Nat} (g23 : Grow w2 w3) (g34 : Grow w3 w4)
    (hn : OwnL w3 89 3 (RNode (fun b => w2.heap.size ≤ b ∧ on ≠ some b) w3) nv nodes on) (hon : ∀ g, on = some g → w2.heap.size ≤ g)
    (he : OwnL w4 91 5 (REdge (fun b => w3.heap.size ≤ b ∧ oe ≠ some b) w4) ev edges oe) (hoe : ∀ g, oe = some g → w3.heap.size ≤ g)
    (m : Mod (fun b => b = B) w4 w5) (hb : w5.heap[B]? = some (.cells #[nv, ev, .int .i64 next] T (0, 0))) (hB : B < w2.heap.size ∨ w4.heap.size ≤ B) :
    GraphOk T (fun b => b = B ∨ w2.heap.size ≤ b) w5 B ⟨nodes, edges, next⟩ := by
  have hs1 := g23.size
  have hs2 := g34.size
  have hs3 := m.size
  have hnl := hn.lt
  have hel := he.lt
  have hBn : ∀ b, w2.heap.size ≤ b → b < w4.heap.size → b ≠ B := fun b h1 h2 e => by omega
  refine ⟨nv, ev, fun b => (w2.heap.size ≤ b ∧ on ≠ some b ∧ b < w3.heap.size) ∨ (w3.heap.size ≤ b ∧ oe ≠ some b ∧ b < w4.heap.size), on, oe, hb, .inl rfl, ?_, ?_, ?_, ?_, ?_, ?_⟩
  · intro h
    rcases h with h | h <;> omega
  · intro b h
    rcases h with h | h
    · exact ⟨.inr h.1, by omega⟩
    · exact ⟨.inr (by omega), by omega⟩
  · intro g hg
    refine ⟨.inr (hon g hg), fun h => ?_⟩
    rcases h with h | h
    · exact h.2.1 hg
    · have := hnl g hg; omega
  · intro g hg
    refine ⟨.inr (by have := hoe g hg; omega), fun h => ?_⟩
    rcases h with h | h
    · have := hoe g hg; omega
    · exact h.2.1 hg
  · have h1 := hn.keep (R' := RNode (fun b => (w2.heap.size ≤ b ∧ on ≠ some b) ∧ b < w3.heap.size) w3) (w' := w3) (fun _ _ => rfl) (fun x r _ h => h.cut)
    have m35 : Mod (fun b => b = B) w3 w5 := (Mod.of_grow g34).step m
    refine h1.keep (fun g hg => m35.block g (hnl g hg) (hBn g (hon g hg) (by have := hnl g hg; omega))) (fun x r _ h => (h.mod m35 (fun b hb => hBn b hb.1.1 (by omega))).sub (fun b hb => .inl ⟨hb.1.1, hb.1.2, hb.2⟩))
  · have h1 := he.keep (R' := REdge (fun b => (w3.heap.size ≤ b ∧ oe ≠ some b) ∧ b < w4.heap.size) w4) (w' := w4) (fun _ _ => rfl) (fun x r _ h => h.cut)
    refine h1.keep (fun g hg => m.block g (hel g hg) (hBn g (by have := hoe g hg; omega) (hel g hg))) (fun x r _ h => (h.mod m (fun b hb => hBn b (by have := hb.1.1; omega) hb.2)).sub (fun b hb => .inr ⟨hb.1.1, hb.1.2, hb.2⟩))

def LoadPost (T : TypeId) (B : Nat) (L : PGraph) (w : World) (e : Ending) (w' : World) : Prop :=
  (goodG L = true ∧ e = .returned (.int .i64 0) ∧ GraphOk T (fun b => b = B ∨ w.heap.size ≤ b) w' B L ∧ Mod (fun b => b = B) w w') ∨ (goodG L = false ∧ e = .returned (.int .i64 11) ∧ Grow w w')

set_option maxRecDepth 100000 in
set_option maxHeartbeats 2000000 in
theorem graphLoad (S : Nat → Prop) (B : Nat) (cs : Array Value) (nv ev : Value) (nodes : List PNode) (edges : List PEdge) (next : Int) (w : World) (hcs : cs.size = 3) (hBb : w.heap[B]? = some (.cells cs 101 (0, 0))) (hn : NodesR S w nv nodes) (he : EdgesR S w ev edges)
    (hn40 : nodes.length ≤ 1099511627776) (he40 : edges.length ≤ 1099511627776) :
    Calls Tryz.prog 96 #[.pointer (some ⟨B, 0, none⟩), nv, ev, .int .i64 next] w (LoadPost 101 B ⟨nodes, edges, next⟩ w) := by
  have HN := Lib.hid hn; have HE := Lib.hid he; have HN40 := Lib.hid hn40; have HE40 := Lib.hid he40; have HB := Lib.hid hBb
  obtain ⟨na, nc, rfl, _⟩ := SlR.open hn
  obtain ⟨ea, ec, rfl, _⟩ := SlR.open he
  have hBl := blk_lt hBb
  have HW := Lib.hid (show ∀ o1, Grow w (w.alloc o1) from fun o1 => (Grow.rfl' w).allocd o1)
  have HRD := Lib.hid (show GraphRd 101 S (w.alloc (.cells #[.slice na nodes.length nc, .slice ea edges.length ec, .int .i64 next] 101)) w.heap.size ⟨nodes, edges, next⟩ from
    ⟨_, _, heap_alloc_new w _, HN.out.grow (HW.out _), HE.out.grow (HW.out _)⟩)
  obtain ⟨v0, v1, v2, rfl⟩ : ∃ a b c, cs = #[a, b, c] := by
    match cs, hcs with
    | ⟨[a, b, c]⟩, _ => exact ⟨a, b, c, rfl⟩
  clear hn he hn40 he40 hBb hcs
  go_enter Tryz.func96, Tryz.ntmps96
  go_wp2_with fail
  refine (graphGood S _ _ _ HRD.out HN40.out HE40.out).mono ?_
  rintro e w2 ⟨rfl, hg2⟩
  have HG2 := Lib.hid ((HW.out _).step hg2); have HA2 := Lib.hid hg2
  clear hg2
  cases hgd : goodG ⟨nodes, edges, next⟩
  · have HGD := Lib.hid hgd; clear hgd
    go_wp2
    go_ret
    exact .inr ⟨HGD.out, rfl, HG2.out⟩
  · have HGD := Lib.hid hgd; clear hgd
    have hP := goodG_inv HGD.out
    have HPN := Lib.hid (show ∀ x ∈ nodes, x.props.length ≤ 1099511627776 from fun x hx => by have := (hP.nodesB x hx).2.2; omega)
    have HPE := Lib.hid (show ∀ x ∈ edges, x.props.length ≤ 1099511627776 from fun x hx => by have := (hP.edgesB x hx).2.2; omega)
    clear hP
    go_wp2_with fail
    refine (graphNodes S _ ⟨nodes, edges, next⟩ _ (HRD.out.grow HA2.out) HN40.out HPN.out).mono ?_
    rintro e w3 ⟨v3, on, rfl, hon, hon2, hg3⟩
    have HON := Lib.hid hon; have HON2 := Lib.hid hon2; have HG3 := Lib.hid hg3
    obtain ⟨a3, c3, rfl⟩ : ∃ a c, v3 = .slice a nodes.length c := by obtain ⟨_, _, _, h⟩ := hon; obtain ⟨oa, cap, h, _⟩ := h.isSlice; exact ⟨oa, cap, h⟩
    clear hon hon2 hg3
    go_wp2_with fail
    refine (graphEdges S _ ⟨nodes, edges, next⟩ _ (HRD.out.grow (HA2.out.step HG3.out)) HE40.out HPE.out).mono ?_
    rintro e w4 ⟨v4, oe, rfl, hoe, hoe2, hg4⟩
    have HOE := Lib.hid hoe; have HOE2 := Lib.hid hoe2; have HG4 := Lib.hid hg4
    obtain ⟨a4, c4, rfl⟩ : ∃ a c, v4 = .slice a edges.length c := by obtain ⟨_, _, _, h⟩ := hoe; obtain ⟨oa, cap, h, _⟩ := h.isSlice; exact ⟨oa, cap, h⟩
    have hb4 := (((HG2.out.step HG3.out).step hg4).heapEq hBl).trans HB.out
    have HB4 := Lib.hid hb4
    have hl4 := blk_lt hb4
    have y0 : w4.cell? ⟨B, 0, none⟩ = some v0 := by rw [blk_cell hb4]; rfl
    have y1 : w4.cell? ⟨B, 1, none⟩ = some v1 := by rw [blk_cell hb4]; rfl
    have y2 : w4.cell? ⟨B, 2, none⟩ = some v2 := by rw [blk_cell hb4]; rfl
    have f0 := blk_free hb4 0
    have f1 := blk_free hb4 1
    have f2 := blk_free hb4 2
    clear hoe hoe2 hg4 hb4
    go_wp2
    go_ret
    have m5 : Mod (fun b => b = B) w4 (((w4.setCell ⟨B, 0, none⟩ (.slice a3 nodes.length c3)).setCell ⟨B, 1, none⟩ (.slice a4 edges.length c4)).setCell ⟨B, 2, none⟩ (.int .i64 next)) :=
      (((Mod.rfl' (fun b => b = B) w4).setd (p := ⟨B, 0, none⟩) (.inl rfl) _).setd (p := ⟨B, 1, none⟩) (.inl rfl) _).setd (p := ⟨B, 2, none⟩) (.inl rfl) _
    have hb5 : (((w4.setCell ⟨B, 0, none⟩ (.slice a3 nodes.length c3)).setCell ⟨B, 1, none⟩ (.slice a4 edges.length c4)).setCell ⟨B, 2, none⟩ (.int .i64 next)).heap[B]? = some (.cells #[.slice a3 nodes.length c3, .slice a4 edges.length c4, .int .i64 next] 101 (0, 0)) :=
      heap_setCell_same _ B 2 _ _ _ (heap_setCell_same _ B 1 _ _ _ (heap_setCell_same w4 B 0 _ _ _ HB4.out))
    have hcl := graph_close (T := 101) HG3.out HG4.out HON.out HON2.out HOE.out HOE2.out m5 hb5 (.inl (Nat.lt_of_lt_of_le hBl HG2.out.size))
    exact .inl ⟨HGD.out, rfl, hcl.sub (fun b hb => hb.imp id (fun h => Nat.le_trans HG2.out.size h)), (Mod.of_grow ((HG2.out.step HG3.out).step HG4.out)).step m5⟩
end Go.Hg

namespace Go.Hg
open Go.RowKit Go.Proofs

set_option maxHeartbeats 400000 in
theorem gone1 (x : PNode) (pv : Value) (ib : Nat) (id : Int) (w : World) (S : Nat → Prop) (hp : PropsR S w pv x.props) (hc : w.cell? ⟨ib, 0, none⟩ = some (.int .i64 id)) :
    Calls Tryz.prog 93 #[x.args pv, .pointer (some ⟨ib, 0, none⟩)] w fun e w' => e = .returned (.bool (decide (x.id = id))) ∧ Grow w w' := by
  obtain ⟨_, _, rfl⟩ := hp.isSlice
  have hlt := cell_lt hc
  have hc2 : ∀ o, (w.alloc o).cell? ⟨ib, 0, none⟩ = some (.int .i64 id) := fun o => ((Grow.rfl' w).allocd o).cell (p := ⟨ib, 0, none⟩) hlt |>.trans hc
  have HG := Lib.hid (show ∀ o1, Grow w (w.alloc o1) from fun o1 => (Grow.rfl' w).allocd o1)
  clear hp hc
  go_enter Tryz.func93, Tryz.ntmps93
  go_wp2
  go_ret
  exact ⟨by by_cases h : x.id = id <;> simp [h], HG.out _⟩
set_option maxHeartbeats 400000 in
theorem gone2 (x : PEdge) (pv : Value) (ib : Nat) (id : Int) (w : World) (S : Nat → Prop) (hp : PropsR S w pv x.props) (hc : w.cell? ⟨ib, 0, none⟩ = some (.int .i64 id)) :
    Calls Tryz.prog 95 #[x.args pv, .pointer (some ⟨ib, 0, none⟩)] w fun e w' => e = .returned (.bool (decide (x.id = id))) ∧ Grow w w' := by
  obtain ⟨_, _, rfl⟩ := hp.isSlice
  have hlt := cell_lt hc
  have hc2 : ∀ o, (w.alloc o).cell? ⟨ib, 0, none⟩ = some (.int .i64 id) := fun o => ((Grow.rfl' w).allocd o).cell (p := ⟨ib, 0, none⟩) hlt |>.trans hc
  have HG := Lib.hid (show ∀ o1, Grow w (w.alloc o1) from fun o1 => (Grow.rfl' w).allocd o1)
  clear hp hc
  go_enter Tryz.func95, Tryz.ntmps95
  go_wp2
  go_ret
  exact ⟨by by_cases h : x.id = id <;> simp [h], HG.out _⟩
def goneG (G : PGraph) (id : Int) : PGraph := ⟨G.nodes.filter fun x => !decide (x.id = id), G.edges.filter fun x => !decide (x.id = id), id⟩
theorem blk_mod {F : Nat → Prop} {w w' : World} {b : Nat} {cs : Array Value} {T : TypeId} (h : w.heap[b]? = some (.cells cs T (0, 0))) (m : Mod F w w') (hn : ¬ F b) : w'.heap[b]? = some (.cells cs T (0, 0)) := (m.block b (blk_lt h) hn).trans h

set_option maxRecDepth 100000 in
set_option maxHeartbeats 1000000 in
theorem undoGone (S : Nat → Prop) (B : Nat) (G : PGraph) (id : Int) (w : World) (h : GraphOk 101 S w B G) (hG : GInv G) (hgood : goodG (goneG G id) = true) :
    Calls Tryz.prog 63 #[.pointer (some ⟨B, 0, none⟩), .int .i64 id] w fun e w' => e = .returned (.tuple #[]) ∧ GraphOk 101 (fun b => b = B ∨ w.heap.size ≤ b) w' B (goneG G id) ∧ Mod (fun b => b = B) w w' := by
  have HRD := Lib.hid h.rd
  obtain ⟨nv0, ev0, _, _, _, hblk0, _⟩ := h
  have HBLK := Lib.hid hblk0
  have hB := blk_lt hblk0
  have HGD := Lib.hid hgood
  have HPN := Lib.hid (show ∀ x ∈ G.nodes, x.props.length ≤ 1099511627776 from fun x hx => by have := (hG.nodesB x hx).2.2; omega)
  have HPE := Lib.hid (show ∀ x ∈ G.edges, x.props.length ≤ 1099511627776 from fun x hx => by have := (hG.edgesB x hx).2.2; omega)
  have HLN := Lib.hid hG.items
  have HW := Lib.hid (show ∀ o1, Grow w (w.alloc o1) from fun o1 => (Grow.rfl' w).allocd o1)
  have HID := Lib.hid (heap_alloc_new w (.cells #[.int .i64 id] 2))
  clear hG hgood hblk0
  go_enter Tryz.func63, Tryz.ntmps63
  go_wp2_with fail
  refine (graphNodes S B G _ (HRD.out.grow (HW.out _)) (by have := HLN.out; omega) HPN.out).mono ?_
  rintro e w2 ⟨v2, ob2, rfl, hown2, hob2, hg2⟩
  have HOB2 := Lib.hid hob2; have HG02 := Lib.hid ((HW.out _).step hg2); have HG2 := Lib.hid hg2
  have HID2 := Lib.hid ((hg2.heapEq (by simp)).trans HID.out)
  obtain ⟨a2, c2, rfl⟩ : ∃ a c, v2 = .slice a G.nodes.length c := by obtain ⟨_, _, _, h⟩ := hown2; obtain ⟨oa, cap, h, _⟩ := h.isSlice; exact ⟨oa, cap, h⟩
  have HOWN2 := Lib.hid hown2
  clear hown2 hob2 hg2
  go_wp2_with fail
  refine (deleteNodes _ _ G.nodes ob2 93 ⟨w.heap.size, 0, none⟩ (fun x => decide (x.id = id)) _ HOWN2.out (fun g hg h => h.2 hg) ⟨fun args w => enterF Tryz.func93 (by kernel_rfl) rfl args w, fun S x pv w' hm hp => gone1 x pv _ id w' S hp ((blk_cell (blk_mod HID2.out hm (fun hh => by have := HOB2.out _ hh; simp at this; omega)) 0).trans rfl)⟩ (by have := HLN.out; omega)).mono ?_
  rintro e w3 ⟨v3, rfl, hown3, hm3⟩
  have hg3 : Grow w w3 := HG02.out.modd hm3 (fun x hx => by have := HOB2.out x hx; simp at this; omega)
  have HG3 := Lib.hid hg3
  have HID3 := Lib.hid (blk_mod HID2.out hm3 (fun hh => by have := HOB2.out _ hh; simp at this; omega))
  have HNR := Lib.hid (hown3.toSl (S := fun b => w.heap.size ≤ b) (fun g hg => by have := HOB2.out g hg; simp at this; omega))
  obtain ⟨a3, c3, rfl⟩ : ∃ a c, v3 = .slice a (G.nodes.filter fun x => !decide (x.id = id)).length c := by obtain ⟨_, _, _, h⟩ := hown3; obtain ⟨oa, cap, h, _⟩ := h.isSlice; exact ⟨oa, cap, h⟩
  clear hown3 hm3 hg3
  go_wp2_with fail
  refine (graphEdges S B G _ (HRD.out.grow HG3.out) (by have := HLN.out; omega) HPE.out).mono ?_
  rintro e w4 ⟨v4, ob4, rfl, hown4, hob4, hg4⟩
  have HOB4 := Lib.hid hob4; have HG04 := Lib.hid (HG3.out.step hg4); have HG4 := Lib.hid hg4
  have HID4 := Lib.hid ((hg4.heapEq (blk_lt HID3.out)).trans HID3.out)
  obtain ⟨a4, c4, rfl⟩ : ∃ a c, v4 = .slice a G.edges.length c := by obtain ⟨_, _, _, h⟩ := hown4; obtain ⟨oa, cap, h, _⟩ := h.isSlice; exact ⟨oa, cap, h⟩
  have HOWN4 := Lib.hid hown4
  have hs3 : w.heap.size < w3.heap.size := blk_lt HID3.out
  clear hown4 hob4 hg4
  go_wp2_with fail
  refine (deleteEdges _ _ G.edges ob4 95 ⟨w.heap.size, 0, none⟩ (fun x => decide (x.id = id)) _ HOWN4.out (fun g hg h => h.2 hg) ⟨fun args w => enterF Tryz.func95 (by kernel_rfl) rfl args w, fun S x pv w' hm hp => gone2 x pv _ id w' S hp ((blk_cell (blk_mod HID4.out hm (fun hh => by have := HOB4.out _ hh; omega)) 0).trans rfl)⟩ (by have := HLN.out; omega)).mono ?_
  rintro e w5 ⟨v5, rfl, hown5, hm5⟩
  have hg5 : Grow w w5 := HG04.out.modd hm5 (fun x hx => by have := HOB4.out x hx; omega)
  have HG5 := Lib.hid hg5
  have h45 : Grow w3 w5 := HG4.out.modd hm5 (fun x hx => HOB4.out x hx)
  have i5 : w5.cell? ⟨w.heap.size, 0, none⟩ = some (.int .i64 id) := (blk_cell (blk_mod HID4.out hm5 (fun hh => by have := HOB4.out _ hh; omega)) 0).trans rfl
  have HNR5 := Lib.hid (show NodesR (fun _ => True) w5 (.slice a3 (G.nodes.filter fun x => !decide (x.id = id)).length c3) (G.nodes.filter fun x => !decide (x.id = id)) from
    NodesR.grow (SlR.sub HNR.out (fun _ _ => trivial) (fun x r _ hR => hR.sub (fun _ _ => trivial))) h45)
  have HER5 := Lib.hid (show EdgesR (fun _ => True) w5 v5 (G.edges.filter fun x => !decide (x.id = id)) from
    SlR.sub (hown5.toSl (S := fun _ => True) (fun _ _ => trivial)) (fun _ _ => trivial) (fun x r _ hR => hR.sub (fun _ _ => trivial)))
  obtain ⟨a5, c5, rfl⟩ : ∃ a c, v5 = .slice a (G.edges.filter fun x => !decide (x.id = id)).length c := by obtain ⟨_, _, _, h⟩ := hown5; obtain ⟨oa, cap, h, _⟩ := h.isSlice; exact ⟨oa, cap, h⟩
  have HB5 := Lib.hid ((HG5.out.heapEq hB).trans HBLK.out)
  have HLN2 := Lib.hid (show (G.nodes.filter fun x => !decide (x.id = id)).length ≤ 1099511627776 ∧ (G.edges.filter fun x => !decide (x.id = id)).length ≤ 1099511627776 from
    ⟨Nat.le_trans (List.length_filter_le _ _) (by have := HLN.out; omega), Nat.le_trans (List.length_filter_le _ _) (by have := HLN.out; omega)⟩)
  clear hown5 hm5 hg5 h45
  have HEQ := Lib.hid (show goneG G id = ⟨G.nodes.filter fun x => !decide (x.id = id), G.edges.filter fun x => !decide (x.id = id), id⟩ from rfl)
  generalize (G.nodes.filter fun x => !decide (x.id = id)) = nl at *
  generalize (G.edges.filter fun x => !decide (x.id = id)) = el at *
  go_wp2_with fail
  refine (graphLoad (fun _ => True) B #[nv0, ev0, .int .i64 G.next] _ _ nl el id _ rfl HB5.out HNR5.out HER5.out HLN2.out.1 HLN2.out.2).mono ?_
  rintro e w6 (⟨-, rfl, hok, hm6⟩ | ⟨hbad, -⟩)
  · go_wp2
    go_end0
    have hs5 := HG5.out.size
    rw [HEQ.out]
    exact ⟨rfl, hok.sub (fun b hb => hb.imp (fun x => x) (fun h => Nat.le_trans hs5 h)), (Mod.of_grow HG5.out).step hm6⟩
  · have h := HGD.out
    rw [HEQ.out, hbad] at h
    cases h
end Go.Hg

namespace Go.Hg
open Go.RowKit Go.Proofs

theorem joinRows {α : Type} {Q : α → List Value → Prop} {sz : Nat} {l m : List α} {r1 r2 : List (List Value)} (h1 : r1.length = l.length) (a : ∀ (k : Nat) x r, l[k]? = some x → r1[k]? = some r → Q x r ∧ r.length = sz)
    (h2 : r2.length = m.length) (b : ∀ (k : Nat) x r, m[k]? = some x → r2[k]? = some r → Q x r ∧ r.length = sz) :
    (r1 ++ r2).length = (l ++ m).length ∧ ∀ (k : Nat) x r, (l ++ m)[k]? = some x → (r1 ++ r2)[k]? = some r → Q x r ∧ r.length = sz := by
  refine ⟨by simp [h1, h2], fun k x r hx hr => ?_⟩
  by_cases hk : k < l.length
  · rw [List.getElem?_append_left hk] at hx
    rw [List.getElem?_append_left (by omega)] at hr
    exact a k x r hx hr
  · rw [List.getElem?_append_right (by omega)] at hx
    rw [List.getElem?_append_right (by omega), h1] at hr
    exact b _ x r hx hr
theorem oneN {S : Nat → Prop} {w : World} {l : List PNode} {rows : List (List Value)} (h1 : rows.length = l.length) (h : ∀ (k : Nat) x r, l[k]? = some x → rows[k]? = some r → RNode S w x r ∧ r.length = 3) : ∀ u ∈ rows.flatten, u.oneCell' = true := one_flat h1 h (fun _ _ h => h.one)
theorem oneE {S : Nat → Prop} {w : World} {l : List PEdge} {rows : List (List Value)} (h1 : rows.length = l.length) (h : ∀ (k : Nat) x r, l[k]? = some x → rows[k]? = some r → REdge S w x r ∧ r.length = 5) : ∀ u ∈ rows.flatten, u.oneCell' = true := one_flat h1 h (fun _ _ h => h.one)
theorem joinN {K : Nat → Prop} {w w2 w3 : World} {ob2 ob3 : Option Nat} {v3 : Value} {l m : List PNode} {r1 r2 : List (List Value)} (h1 : r1.length = l.length)
    (a : ∀ (k : Nat) x r, l[k]? = some x → r1[k]? = some r → RNode (fun b => w.heap.size ≤ b ∧ ob2 ≠ some b) w2 x r ∧ r.length = 3) (h2 : r2.length = m.length) (b : ∀ (k : Nat) x r, m[k]? = some x → r2[k]? = some r → RNode K w x r ∧ r.length = 3)
    (hob : ∀ g, ob2 = some g → w.heap.size ≤ g) (g : Grow w w2) (hm : Mod (fun k => ob2 = some k) w2 w3) (k1 : OwnS w3 89 3 v3 (l.length + m.length) (r1.flatten ++ r2.flatten) ob3) (k3 : ob3 = ob2 ∨ ∃ g, ob3 = some g ∧ w2.heap.size ≤ g) :
    OwnL w3 89 3 (RNode (fun b => (w.heap.size ≤ b ∨ K b) ∧ ob3 ≠ some b) w3) v3 (l ++ m) ob3 ∧ (∀ g, ob3 = some g → w.heap.size ≤ g) ∧ Grow w w3 := by
  have g3 : Grow w w3 := g.modd hm hob
  have hs := g.size
  have ho : ∀ g, ob3 = some g → w.heap.size ≤ g := fun g hg => by
    rcases k3 with h | ⟨g', h, hge⟩
    · exact hob g (h ▸ hg)
    · rw [h] at hg; cases hg; omega
  obtain ⟨c1, c2⟩ := joinRows (Q := RNode (fun b => (w.heap.size ≤ b ∨ K b) ∧ ob3 ≠ some b) w3) h1 (fun k x r hx hr => by
    obtain ⟨p, q⟩ := a k x r hx hr
    refine ⟨(p.cut.mod hm (fun b hb hh => hb.1.2 hh)).sub (fun b hb => ⟨.inl hb.1.1, fun hh => ?_⟩), q⟩
    rcases k3 with h | ⟨g', h, hge⟩
    · exact hb.1.2 (h ▸ hh)
    · rw [h] at hh; cases hh; have := hb.2; omega) h2 (fun k x r hx hr => by
    obtain ⟨p, q⟩ := b k x r hx hr
    refine ⟨(p.cut.mod (Mod.of_grow (F := fun _ => False) g3) (fun _ _ => id)).sub (fun b hb => ⟨.inr hb.1, fun hh => by have := ho b hh; have := hb.2; omega⟩), q⟩)
  refine ⟨⟨r1 ++ r2, c1, c2, ?_⟩, ho, g3⟩
  rw [List.flatten_append, List.length_append]
  exact k1
theorem joinE {K : Nat → Prop} {w w2 w3 : World} {ob2 ob3 : Option Nat} {v3 : Value} {l m : List PEdge} {r1 r2 : List (List Value)} (h1 : r1.length = l.length)
    (a : ∀ (k : Nat) x r, l[k]? = some x → r1[k]? = some r → REdge (fun b => w.heap.size ≤ b ∧ ob2 ≠ some b) w2 x r ∧ r.length = 5) (h2 : r2.length = m.length) (b : ∀ (k : Nat) x r, m[k]? = some x → r2[k]? = some r → REdge K w x r ∧ r.length = 5)
    (hob : ∀ g, ob2 = some g → w.heap.size ≤ g) (g : Grow w w2) (hm : Mod (fun k => ob2 = some k) w2 w3) (k1 : OwnS w3 91 5 v3 (l.length + m.length) (r1.flatten ++ r2.flatten) ob3) (k3 : ob3 = ob2 ∨ ∃ g, ob3 = some g ∧ w2.heap.size ≤ g) :
    OwnL w3 91 5 (REdge (fun b => (w.heap.size ≤ b ∨ K b) ∧ ob3 ≠ some b) w3) v3 (l ++ m) ob3 ∧ (∀ g, ob3 = some g → w.heap.size ≤ g) ∧ Grow w w3 := by
  have g3 : Grow w w3 := g.modd hm hob
  have hs := g.size
  have ho : ∀ g, ob3 = some g → w.heap.size ≤ g := fun g hg => by
    rcases k3 with h | ⟨g', h, hge⟩
    · exact hob g (h ▸ hg)
    · rw [h] at hg; cases hg; omega
  obtain ⟨c1, c2⟩ := joinRows (Q := REdge (fun b => (w.heap.size ≤ b ∨ K b) ∧ ob3 ≠ some b) w3) h1 (fun k x r hx hr => by
    obtain ⟨p, q⟩ := a k x r hx hr
    refine ⟨(p.cut.mod hm (fun b hb hh => hb.1.2 hh)).sub (fun b hb => ⟨.inl hb.1.1, fun hh => ?_⟩), q⟩
    rcases k3 with h | ⟨g', h, hge⟩
    · exact hb.1.2 (h ▸ hh)
    · rw [h] at hh; cases hh; have := hb.2; omega) h2 (fun k x r hx hr => by
    obtain ⟨p, q⟩ := b k x r hx hr
    refine ⟨(p.cut.mod (Mod.of_grow (F := fun _ => False) g3) (fun _ _ => id)).sub (fun b hb => ⟨.inr hb.1, fun hh => by have := ho b hh; have := hb.2; omega⟩), q⟩)
  refine ⟨⟨r1 ++ r2, c1, c2, ?_⟩, ho, g3⟩
  rw [List.flatten_append, List.length_append]
  exact k1

set_option maxRecDepth 100000 in
set_option maxHeartbeats 2000000 in
theorem undoAgain (S K : Nat → Prop) (B : Nat) (G H : PGraph) (ns : List PNode) (es : List PEdge) (nv ev : Value) (w : World) (h : GraphOk 101 S w B G) (hG : GInv G) (hn : NodesR K w nv ns) (he : EdgesR K w ev es)
    (hp1 : (G.nodes ++ ns).Perm H.nodes) (hp2 : (G.edges ++ es).Perm H.edges) (hnx : H.next = G.next) (hH : goodG H = true) :
    Calls Tryz.prog 68 #[.pointer (some ⟨B, 0, none⟩), nv, ev] w fun e w' => e = .returned (.tuple #[]) ∧ GraphOk 101 (fun b => b = B ∨ w.heap.size ≤ b) w' B H ∧ Mod (fun b => b = B) w w' := by
  have HRD := Lib.hid h.rd
  have HOK := Lib.hid h
  obtain ⟨nv0, ev0, _, _, _, hblk0, _⟩ := h
  have HBLK := Lib.hid hblk0
  have hB := blk_lt hblk0
  have hI := goodG_inv hH
  have hl1 : G.nodes.length + ns.length = H.nodes.length := by have := hp1.length_eq; rwa [List.length_append] at this
  have hl2 : G.edges.length + es.length = H.edges.length := by have := hp2.length_eq; rwa [List.length_append] at this
  have hit := hI.items
  have HL1 := Lib.hid (show G.nodes.length + ns.length ≤ 1024 by omega)
  have HL2 := Lib.hid (show G.edges.length + es.length ≤ 1024 by omega)
  have HP1 := Lib.hid hp1; have HP2 := Lib.hid hp2; have HNX := Lib.hid hnx; have HH := Lib.hid hH
  have HSN := Lib.hid hI.nodes; have HSE := Lib.hid hI.edges; have HIT := Lib.hid hit
  have HPN := Lib.hid (show ∀ x ∈ G.nodes, x.props.length ≤ 1099511627776 from fun x hx => by have := (hG.nodesB x hx).2.2; omega)
  have HPE := Lib.hid (show ∀ x ∈ G.edges, x.props.length ≤ 1099511627776 from fun x hx => by have := (hG.edgesB x hx).2.2; omega)
  obtain ⟨iN, hiN, hzN0, hzN1, hzN2⟩ := info_parts infoNode
  obtain ⟨iE, hiE, hzE0, hzE1, hzE2⟩ := info_parts infoEdge
  obtain ⟨rn, rn1, rn2, rn3⟩ := SlR.rd hn (by decide) (fun x r h => by obtain ⟨pv, rfl, _⟩ := h; rfl)
  obtain ⟨re, re1, re2, re3⟩ := SlR.rd he (by decide) (fun x r h => by obtain ⟨pv, rfl, _⟩ := h; rfl)
  obtain ⟨na, nc, rfl, _⟩ := SlR.open hn
  obtain ⟨ea, ec, rfl, _⟩ := SlR.open he
  have ON := Lib.hid (oneN rn1 rn2); have OE := Lib.hid (oneE re1 re2)
  have RN1 := Lib.hid rn1; have RN2 := Lib.hid rn2; have RN3 := Lib.hid rn3
  have RE1 := Lib.hid re1; have RE2 := Lib.hid re2; have RE3 := Lib.hid re3
  clear hG hn he hp1 hp2 hnx hH hblk0 hI hl1 hl2 hit rn1 rn2 rn3 re1 re2 re3
  go_enter Tryz.func68, Tryz.ntmps68
  go_wp2_with fail
  refine (graphNodes S B G _ HRD.out (by have := HL1.out; omega) HPN.out).mono ?_
  rintro e w2 ⟨v2, ob2, rfl, hown2, hob2, hg2⟩
  obtain ⟨q2, q21, -, q22, q23⟩ := hown2.rowLen
  have HQ1 := Lib.hid q21; have HQ2 := Lib.hid q22; have HQ3 := Lib.hid q23; have HOB2 := Lib.hid hob2; have HG2 := Lib.hid hg2
  obtain ⟨a2, c2, rfl, -, -⟩ := q23.isSlice
  clear hown2 hob2 hg2 q21 q22 q23
  go_wp2_with (at_builtin; go_must (refine wpList_append_S _ rfl (.tmp 7) (.tmp 8) 59 rfl 89 iN _ 3 48 Tryz.underlying59 hiN hzN0 hzN1 hzN2 rfl (by decide) (.slice a2 G.nodes.length c2) G.nodes.length _ ob2 rfl HQ3.out (.slice na ns.length nc) rfl ns.length _ (RN3.out.grow HG2.out) ON.out (by have := HL1.out; unfold maxLen; omega) (by have := HL1.out; omega) ?_))
  intro v3 w3 ob3 k1 k2 k3 _
  obtain ⟨j1, j2, j3⟩ := joinN HQ1.out HQ2.out RN1.out RN2.out HOB2.out HG2.out k2 k1 k3
  have J1 := Lib.hid j1; have J2 := Lib.hid j2; have J3 := Lib.hid j3
  obtain ⟨a3, c3, rfl, -, -⟩ := k1.isSlice
  clear k1 k2 k3 j1 j2 j3
  go_wp2_with fail
  refine (graphEdges S B G _ (HRD.out.grow J3.out) (by have := HL2.out; omega) HPE.out).mono ?_
  rintro e w4 ⟨v4, ob4, rfl, hown4, hob4, hg4⟩
  obtain ⟨q4, q41, -, q42, q43⟩ := hown4.rowLen
  have HQ41 := Lib.hid q41; have HQ42 := Lib.hid q42; have HQ43 := Lib.hid q43; have HOB4 := Lib.hid hob4; have HG4 := Lib.hid hg4
  obtain ⟨a4, c4, rfl, -, -⟩ := q43.isSlice
  clear hown4 hob4 hg4 q41 q42 q43
  have hs3 := J3.out.size
  go_wp2_with (at_builtin; go_must (refine wpList_append_S _ rfl (.tmp 11) (.tmp 12) 84 rfl 91 iE _ 5 64 Tryz.underlying84 hiE hzE0 hzE1 hzE2 rfl (by decide) (.slice a4 G.edges.length c4) G.edges.length _ ob4 rfl HQ43.out (.slice ea es.length ec) rfl es.length _ (RE3.out.grow (J3.out.step HG4.out)) OE.out (by have := HL2.out; unfold maxLen; omega) (by have := HL2.out; omega) ?_))
  intro v5 w5 ob5 k1 k2 k3 _
  obtain ⟨j1, j2, j3⟩ := joinE (K := fun b => K b ∧ b < w.heap.size) HQ41.out HQ42.out RE1.out (fun k x r hx hr => ⟨(RE2.out k x r hx hr).1.cut.mod (Mod.of_grow (F := fun _ => False) J3.out) (fun _ _ => id), (RE2.out k x r hx hr).2⟩) HOB4.out HG4.out k2 k1 k3
  have M1 := Lib.hid j1; have M2 := Lib.hid j2; have M3 := Lib.hid j3
  have N1 := Lib.hid (J1.out.keep (R' := RNode (fun b => ((w.heap.size ≤ b ∨ K b) ∧ ob3 ≠ some b) ∧ b < w3.heap.size) w5) (w' := w5) (fun g hg => j3.heapEq (J1.out.lt g hg)) (fun x r _ hR => hR.cut.mod (Mod.of_grow (F := fun _ => False) j3) (fun _ _ => id)))
  obtain ⟨a5, c5, rfl, -, -⟩ := k1.isSlice
  clear k1 k2 k3 j1 j2 j3
  have hln := HL1.out; have hle := HL2.out
  have hcn : (G.nodes ++ ns).length = G.nodes.length + ns.length := List.length_append
  have hce : (G.edges ++ es).length = G.edges.length + es.length := List.length_append
  go_wp2_with fail
  refine (sortN _ _ (G.nodes ++ ns) ob3 _ N1.out (fun g hg h => h.1.2 hg) (by omega)).mono ?_
  rintro e w6 ⟨rfl, L, p1, p2, own6, m6⟩
  have hL : L = H.nodes := sorted_one (f := fun x : PNode => x.id) (p1.trans HP1.out) HSN.out p2
  subst hL
  have OWN6 := Lib.hid own6
  have hd35 : ∀ g, ob5 = some g → ob3 ≠ some g := fun g hg hh => by have h1 := M2.out g hg; have h2 := J1.out.lt g hh; omega
  have m6g : Grow w w6 := ((J3.out.step M3.out).modd m6 (fun g hg => J2.out g hg))
  have E6 := Lib.hid (M1.out.keep (R' := REdge (fun b => (w3.heap.size ≤ b ∨ K b ∧ b < w.heap.size) ∧ ob5 ≠ some b) w6) (w' := w6) (fun g hg => m6.block g (M1.out.lt g hg) (hd35 g hg)) (fun x r _ hR => hR.mod m6 (fun b hb hh => by
    have h1 := J2.out b hh; have h2 := J1.out.lt b hh; rcases hb.1 with h | h <;> omega)))
  have M6 := Lib.hid m6; have G6 := Lib.hid m6g; have HD35 := Lib.hid hd35
  clear own6 m6 m6g hd35 p1 p2
  go_wp2_with fail
  refine (sortE _ _ (G.edges ++ es) ob5 _ E6.out (fun g hg h => h.2 hg) (by omega)).mono ?_
  rintro e w7 ⟨rfl, L, p1, p2, own7, m7⟩
  have hL : L = H.edges := sorted_one (f := fun x : PEdge => x.id) (p1.trans HP2.out) HSE.out p2
  subst hL
  have m7g : Grow w w7 := G6.out.modd m7 (fun g hg => by have := M2.out g hg; omega)
  have N7 := Lib.hid (show NodesR (fun _ => True) w7 (.slice a3 (G.nodes.length + ns.length) c3) H.nodes from
    SlR.sub ((OWN6.out.keep (R' := RNode (fun _ => True) w7) (w' := w7) (fun g hg => m7.block g (OWN6.out.lt g hg) (fun hh => HD35.out g hh hg)) (fun x r _ hR => (hR.mod m7 (fun b hb hh => by have := M2.out b hh; have := hb.2; omega)).sub (fun _ _ => trivial))).toSl (S := fun _ => True) (fun _ _ => trivial)) (fun _ _ => trivial) (fun _ _ _ h => h))
  have E7 := Lib.hid (show EdgesR (fun _ => True) w7 (.slice a5 (G.edges.length + es.length) c5) H.edges from
    SlR.sub (own7.toSl (S := fun _ => True) (fun _ _ => trivial)) (fun _ _ => trivial) (fun x r _ hR => hR.sub (fun _ _ => trivial)))
  have HB7 := Lib.hid ((m7g.heapEq hB).trans HBLK.out)
  have G7 := Lib.hid m7g
  clear own7 m7 m7g p1 p2
  go_wp2_with fail
  refine (graphNext S B G _ (HOK.out.grow G7.out)).mono ?_
  rintro e w8 ⟨rfl, hw8⟩
  subst hw8
  rw [← HNX.out]
  go_wp2_with fail
  refine (graphLoad (fun _ => True) B #[nv0, ev0, .int .i64 G.next] _ _ H.nodes H.edges H.next _ rfl HB7.out N7.out E7.out (by have := HIT.out; omega) (by have := HIT.out; omega)).mono ?_
  rintro e w9 (⟨-, rfl, hok, hm9⟩ | ⟨hbad, -⟩)
  · go_wp2
    go_end0
    have hs7 := G7.out.size
    exact ⟨rfl, hok.sub (fun b hb => hb.imp (fun x => x) (fun h => Nat.le_trans hs7 h)), (Mod.of_grow G7.out).step hm9⟩
  · have h := HH.out
    rw [show H = ⟨H.nodes, H.edges, H.next⟩ from rfl, hbad] at h
    cases h
end Go.Hg
