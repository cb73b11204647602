/- What changes do to a graph, in plain words: errors, Ids, what is there. No condition. -/
import Derived.Test.YtcokiflkjnekeaaGreatGraphR
import Derived.Test.YtcokiflkjnekeaaGreatCat
import Derived.Test.YtcokiflkjnekeaaGreatSetB
import Derived.Test.YtcokiflkjnekeaaGreatSmall
namespace Go.Hg
open Go.RowKit Go.Proofs

structure POp where
  kind : Int
  id : Int
  typ : ByteArray
  from_ : Int
  to_ : Int
  name : ByteArray
  v : PVal
  cascade : Bool
deriving DecidableEq
def POp.cells (o : POp) : List Value := [.int .i64 o.kind, .int .i64 o.id, .string o.typ, .int .i64 o.from_, .int .i64 o.to_, .string o.name, .int .i64 o.v.kind, .int .i64 o.v.n, .string o.v.s, .bool o.cascade]
abbrev POp.args (o : POp) : Value := .agg #[.int .i64 o.kind, .int .i64 o.id, .string o.typ, .int .i64 o.from_, .int .i64 o.to_, .string o.name, .int .i64 o.v.kind, .int .i64 o.v.n, .string o.v.s, .bool o.cascade]

def hasN (G : PGraph) (id : Int) : Bool := G.nodes.any fun x => decide (x.id = id)
def hasE (G : PGraph) (id : Int) : Bool := G.edges.any fun x => decide (x.id = id)
/-- the properties of what has an Id -/
def findP (G : PGraph) (id : Int) : Option (List PProp) :=
  match G.nodes.find? fun x => decide (x.id = id) with
  | some x => some x.props
  | none => match G.edges.find? fun x => decide (x.id = id) with
    | some x => some x.props
    | none => none
/-- the error of a change -/
def mayG (c : PCat) (o : POp) (G : PGraph) : Int :=
  if o.kind = 1 then (if memS o.typ c.nodes = false then 140 else if fullG G = true then 50 else 0)
  else if o.kind = 2 then (if hasN G o.id = false then 60 else if o.cascade = false ∧ (G.edges.any fun x => atE x o.id) = true then 160 else 0)
  else if o.kind = 3 then (if memS o.typ c.edges = false then 140 else if hasN G o.from_ = false ∨ hasN G o.to_ = false then 141 else if fullG G = true then 50 else 0)
  else if o.kind = 4 then (if hasE G o.id = false then 60 else 0)
  else if o.kind = 5 then (if ¬ NameOk o.name ∨ (¬ GoodV o.v ∧ ¬ BlankV o.v) then 142 else match findP G o.id with | none => 60 | some ps => if 8 < (setP ps o.name o.v).length then 3 else 0)
  else 150
def addNodeG (o : POp) (G : PGraph) : PGraph := ⟨G.nodes ++ [⟨G.next, o.typ, []⟩], G.edges, G.next + 1⟩
def dropNodeG (o : POp) (G : PGraph) : PGraph := ⟨G.nodes.filter fun x => !decide (x.id = o.id), G.edges.filter fun x => !atE x o.id, G.next⟩
def addEdgeG (o : POp) (G : PGraph) : PGraph := ⟨G.nodes, G.edges ++ [⟨G.next, o.typ, o.from_, o.to_, []⟩], G.next + 1⟩
def dropEdgeG (o : POp) (G : PGraph) : PGraph := ⟨G.nodes, G.edges.filter fun x => !decide (x.id = o.id), G.next⟩
def setPropG (o : POp) (G : PGraph) : PGraph :=
  if hasN G o.id = true then ⟨G.nodes.map fun x => if x.id = o.id then ⟨x.id, x.typ, setP x.props o.name o.v⟩ else x, G.edges, G.next⟩
  else ⟨G.nodes, G.edges.map fun x => if x.id = o.id then ⟨x.id, x.typ, x.from_, x.to_, setP x.props o.name o.v⟩ else x, G.next⟩
/-- a change that may be done -/
def doG (o : POp) (G : PGraph) : PGraph :=
  if o.kind = 1 then addNodeG o G else if o.kind = 2 then dropNodeG o G else if o.kind = 3 then addEdgeG o G else if o.kind = 4 then dropEdgeG o G else if o.kind = 5 then setPropG o G else G
def idG (o : POp) (G : PGraph) : Int := if o.kind = 1 ∨ o.kind = 3 then G.next else 0
/-- a change, done where it may be -/
def stepG (c : PCat) (o : POp) (G : PGraph) : PGraph := if mayG c o G = 0 then doG o G else G

section
variable {α : Type} (f : α → Int)
theorem idx_any {l : List α} {id : Int} {i : Nat} {b : Bool} (h : BsOk (l.map f) id i b) : b = l.any fun x => decide (f x = id) := by
  obtain ⟨-, ⟨rfl, h⟩ | ⟨rfl, h⟩⟩ := h
  · unfold List.idxOf? at h
    obtain ⟨hl, he, -⟩ := List.findIdx?_eq_some_iff_getElem.1 h
    symm
    rw [List.any_eq_true]
    refine ⟨l[i]'(by simpa using hl), List.getElem_mem _, ?_⟩
    simpa using he
  · unfold List.idxOf? at h
    rw [List.findIdx?_eq_none_iff] at h
    symm
    rw [List.any_eq_false]
    intro x hx
    have := h (f x) (List.mem_map_of_mem hx)
    simpa using this
/-- where it stands -/
theorem idx_at {l : List α} {id : Int} {i : Nat} (h : BsOk (l.map f) id i true) : ∃ x, l[i]? = some x ∧ f x = id := by
  obtain ⟨-, ⟨-, h⟩ | ⟨h, -⟩⟩ := h
  · unfold List.idxOf? at h
    obtain ⟨hl, he, -⟩ := List.findIdx?_eq_some_iff_getElem.1 h
    have hl' : i < l.length := by simpa using hl
    exact ⟨l[i], List.getElem?_eq_getElem hl', by simpa using he⟩
  · cases h
theorem pw_split {l : List α} {i : Nat} {x : α} (hs : (l.map f).Pairwise (· < ·)) (hi : l[i]? = some x) : l = l.take i ++ x :: l.drop (i + 1) ∧ (∀ y ∈ l.take i, f y < f x) ∧ ∀ y ∈ l.drop (i + 1), f x < f y := by
  obtain ⟨hl, rfl⟩ := List.getElem?_eq_some_iff.1 hi
  have e : l = l.take i ++ l[i] :: l.drop (i + 1) := by
    rw [← List.drop_eq_getElem_cons hl, List.take_append_drop]
  refine ⟨e, ?_⟩
  rw [e, List.map_append, List.map_cons, List.pairwise_append, List.pairwise_cons] at hs
  obtain ⟨-, ⟨h2, -⟩, h3⟩ := hs
  exact ⟨fun y hy => h3 _ (List.mem_map_of_mem hy) _ (by simp), fun y hy => h2 _ (List.mem_map_of_mem hy)⟩
/-- one of rising Ids taken out -/
theorem filter_idx {l : List α} {i : Nat} {x : α} {id : Int} (hs : (l.map f).Pairwise (· < ·)) (hi : l[i]? = some x) (hx : f x = id) : (l.filter fun y => !decide (f y = id)) = l.take i ++ l.drop (i + 1) := by
  subst hx
  obtain ⟨e, h1, h2⟩ := pw_split f hs hi
  conv => lhs; rw [e]
  rw [List.filter_append, List.filter_cons]
  rw [List.filter_eq_self.2 (fun y hy => by have := h1 y hy; simp; omega), List.filter_eq_self.2 (fun y hy => by have := h2 y hy; simp; omega)]
  simp
/-- one of rising Ids changed -/
theorem map_idx {l : List α} {i : Nat} {x : α} {id : Int} (g : α → α) (hs : (l.map f).Pairwise (· < ·)) (hi : l[i]? = some x) (hx : f x = id) : (l.map fun y => if f y = id then g y else y) = l.set i (g x) := by
  subst hx
  obtain ⟨e, h1, h2⟩ := pw_split f hs hi
  have hl : i < l.length := (List.getElem?_eq_some_iff.1 hi).1
  have hti : (l.take i).length = i := by rw [List.length_take]; omega
  conv => lhs; rw [e]
  conv => rhs; rw [e]
  rw [List.map_append, List.map_cons, if_pos rfl]
  rw [List.set_append_right _ _ (by omega), hti, Nat.sub_self, List.set_cons_zero]
  congr 1
  · conv => rhs; rw [← List.map_id (l.take i)]
    exact List.map_congr_left fun y hy => by have := h1 y hy; rw [if_neg (by omega)]; rfl
  · congr 1
    conv => rhs; rw [← List.map_id (l.drop (i + 1))]
    exact List.map_congr_left fun y hy => by have := h2 y hy; rw [if_neg (by omega)]; rfl
theorem find_idx {l : List α} {i : Nat} {x : α} {id : Int} (hs : (l.map f).Pairwise (· < ·)) (hi : l[i]? = some x) (hx : f x = id) : (l.find? fun y => decide (f y = id)) = some x := by
  subst hx
  obtain ⟨e, h1, h2⟩ := pw_split f hs hi
  rw [e, List.find?_append, List.find?_eq_none.2 (fun y hy => by have := h1 y hy; simp; omega)]
  simp
theorem find_none {l : List α} {id : Int} (h : (l.any fun y => decide (f y = id)) = false) : (l.find? fun y => decide (f y = id)) = none := by
  rw [List.find?_eq_none]
  intro y hy
  have := List.any_eq_false.1 h y hy
  exact this
end
theorem pw_snoc {l : List Int} {n : Int} (h : l.Pairwise (· < ·)) (hb : ∀ x ∈ l, x < n) : (l ++ [n]).Pairwise (· < ·) := by
  rw [List.pairwise_append]
  exact ⟨h, by simp, fun a ha b hb' => by simp at hb'; subst hb'; exact hb a ha⟩
theorem map_sub {α β : Type} (f : α → β) (p : α → Bool) (l : List α) : ((l.filter p).map f).Sublist (l.map f) := List.Sublist.map f List.filter_sublist

theorem full_no {G : PGraph} (h : fullG G = false) : G.nodes.length + G.edges.length < 1024 ∧ G.next ≤ 4611686018427387903 := by
  unfold fullG at h
  simp only [Bool.or_eq_false_iff, decide_eq_false_iff_not] at h
  omega
theorem GInv.addNode {G : PGraph} (h : GInv G) (hf : fullG G = false) (o : POp) : GInv (addNodeG o G) := by
  have hn := full_no hf
  have h0 := h.next0
  refine ⟨by show 1 ≤ G.next + 1; omega, by show G.next + 1 ≤ _; omega, ?_, ?_, h.edges, ?_, ?_⟩
  · show (G.nodes ++ [_]).length + G.edges.length ≤ 1024
    rw [List.length_append, List.length_singleton]; omega
  · show ((G.nodes ++ [_]).map _).Pairwise _
    rw [List.map_append]
    exact pw_snoc h.nodes (fun x hx => by obtain ⟨y, hy, rfl⟩ := List.mem_map.1 hx; exact (h.nodesB y hy).2.1)
  · intro x hx
    show 1 ≤ x.id ∧ x.id < G.next + 1 ∧ _
    rcases List.mem_append.1 hx with hx | hx
    · have := h.nodesB x hx; omega
    · simp at hx; subst hx; simp; omega
  · intro x hx
    show 1 ≤ x.id ∧ x.id < G.next + 1 ∧ _
    have := h.edgesB x hx; omega
theorem GInv.addEdge {G : PGraph} (h : GInv G) (hf : fullG G = false) (o : POp) : GInv (addEdgeG o G) := by
  have hn := full_no hf
  have h0 := h.next0
  refine ⟨by show 1 ≤ G.next + 1; omega, by show G.next + 1 ≤ _; omega, ?_, h.nodes, ?_, ?_, ?_⟩
  · show G.nodes.length + (G.edges ++ [_]).length ≤ 1024
    rw [List.length_append, List.length_singleton]; omega
  · show ((G.edges ++ [_]).map _).Pairwise _
    rw [List.map_append]
    exact pw_snoc h.edges (fun x hx => by obtain ⟨y, hy, rfl⟩ := List.mem_map.1 hx; exact (h.edgesB y hy).2.1)
  · intro x hx
    show 1 ≤ x.id ∧ x.id < G.next + 1 ∧ _
    have := h.nodesB x hx; omega
  · intro x hx
    show 1 ≤ x.id ∧ x.id < G.next + 1 ∧ _
    rcases List.mem_append.1 hx with hx | hx
    · have := h.edgesB x hx; omega
    · simp at hx; subst hx; simp; omega
theorem GInv.dropNode {G : PGraph} (h : GInv G) (o : POp) : GInv (dropNodeG o G) := by
  refine ⟨h.next0, h.next1, ?_, h.nodes.sublist (map_sub _ _ _), h.edges.sublist (map_sub _ _ _), fun x hx => h.nodesB x (List.mem_filter.1 hx).1, fun x hx => h.edgesB x (List.mem_filter.1 hx).1⟩
  have h1 := h.items
  have h2 := List.length_filter_le (fun x : PNode => !decide (x.id = o.id)) G.nodes
  have h3 := List.length_filter_le (fun x : PEdge => !atE x o.id) G.edges
  show (G.nodes.filter _).length + (G.edges.filter _).length ≤ 1024
  omega
theorem GInv.dropEdge {G : PGraph} (h : GInv G) (o : POp) : GInv (dropEdgeG o G) := by
  refine ⟨h.next0, h.next1, ?_, h.nodes, h.edges.sublist (map_sub _ _ _), h.nodesB, fun x hx => h.edgesB x (List.mem_filter.1 hx).1⟩
  have h1 := h.items
  have h3 := List.length_filter_le (fun x : PEdge => !decide (x.id = o.id)) G.edges
  show G.nodes.length + (G.edges.filter _).length ≤ 1024
  omega
theorem GInv.setProp {G : PGraph} (h : GInv G) (o : POp) {ps : List PProp} (hp : findP G o.id = some ps) (hl : (setP ps o.name o.v).length ≤ 8) : GInv (setPropG o G) := by
  unfold setPropG
  unfold findP at hp
  split
  · rename_i hn
    obtain ⟨x, hx, hxi⟩ := List.any_eq_true.1 hn
    obtain ⟨i, hi⟩ := List.getElem?_of_mem hx
    have hfi := find_idx (·.id) h.nodes hi (by simpa using hxi)
    rw [hfi] at hp
    simp only [Option.some.injEq] at hp
    have hid : x.id = o.id := by simpa using hxi
    refine ⟨h.next0, h.next1, by simpa using h.items, ?_, h.edges, ?_, h.edgesB⟩
    · have e : (G.nodes.map fun x => if x.id = o.id then (⟨x.id, x.typ, setP x.props o.name o.v⟩ : PNode) else x).map (·.id) = G.nodes.map (·.id) := by
        rw [List.map_map]
        refine List.map_congr_left fun y _ => ?_
        simp only [Function.comp]
        split <;> rfl
      exact (show ((G.nodes.map fun x => if x.id = o.id then (⟨x.id, x.typ, setP x.props o.name o.v⟩ : PNode) else x).map (·.id)).Pairwise (· < ·) by rw [e]; exact h.nodes)
    · intro y hy
      obtain ⟨z, hz, rfl⟩ := List.mem_map.1 hy
      have hb := h.nodesB z hz
      split
      · rename_i hzi
        obtain ⟨j, hj⟩ := List.getElem?_of_mem hz
        have h2 := find_idx (·.id) h.nodes hj hzi
        rw [hfi] at h2
        simp only [Option.some.injEq] at h2
        subst h2
        exact ⟨hb.1, hb.2.1, by rw [hp]; exact hl⟩
      · exact hb
  · rename_i hn
    have hn' : hasN G o.id = false := by simpa using hn
    rw [find_none (fun x : PNode => x.id) hn'] at hp
    cases hf : G.edges.find? fun x => decide (x.id = o.id) with
    | none => rw [hf] at hp; simp at hp
    | some x =>
      rw [hf] at hp
      simp only [Option.some.injEq] at hp
      refine ⟨h.next0, h.next1, by simpa using h.items, h.nodes, ?_, h.nodesB, ?_⟩
      · have e : (G.edges.map fun x => if x.id = o.id then (⟨x.id, x.typ, x.from_, x.to_, setP x.props o.name o.v⟩ : PEdge) else x).map (·.id) = G.edges.map (·.id) := by
          rw [List.map_map]
          refine List.map_congr_left fun y _ => ?_
          simp only [Function.comp]
          split <;> rfl
        exact (show ((G.edges.map fun x => if x.id = o.id then (⟨x.id, x.typ, x.from_, x.to_, setP x.props o.name o.v⟩ : PEdge) else x).map (·.id)).Pairwise (· < ·) by rw [e]; exact h.edges)
      · intro y hy
        obtain ⟨z, hz, rfl⟩ := List.mem_map.1 hy
        have hb := h.edgesB z hz
        split
        · rename_i hzi
          obtain ⟨j, hj⟩ := List.getElem?_of_mem hz
          have h2 := find_idx (·.id) h.edges hj hzi
          rw [hf] at h2
          simp only [Option.some.injEq] at h2
          subst h2
          exact ⟨hb.1, hb.2.1, by rw [hp]; exact hl⟩
        · exact hb
/-- the structure of a graph is kept by each change that may be done -/
theorem GInv.doG {c : PCat} {o : POp} {G : PGraph} (h : GInv G) (hm : mayG c o G = 0) : GInv (doG o G) := by
  unfold mayG at hm
  unfold Hg.doG
  by_cases h1 : o.kind = 1
  · rw [if_pos h1] at hm ⊢
    split at hm
    · simp at hm
    · split at hm
      · simp at hm
      · exact h.addNode (by simpa using ‹¬ fullG G = true›) o
  rw [if_neg h1] at hm ⊢
  by_cases h2 : o.kind = 2
  · rw [if_pos h2]; exact h.dropNode o
  rw [if_neg h2] at hm ⊢
  by_cases h3 : o.kind = 3
  · rw [if_pos h3] at hm ⊢
    split at hm
    · simp at hm
    · split at hm
      · simp at hm
      · split at hm
        · simp at hm
        · exact h.addEdge (by simpa using ‹¬ fullG G = true›) o
  rw [if_neg h3] at hm ⊢
  by_cases h4 : o.kind = 4
  · rw [if_pos h4]; exact h.dropEdge o
  rw [if_neg h4] at hm ⊢
  by_cases h5 : o.kind = 5
  · rw [if_pos h5] at hm ⊢
    split at hm
    · simp at hm
    · split at hm
      · simp at hm
      · rename_i ps hps
        split at hm
        · simp at hm
        · exact h.setProp o hps (by omega)
  rw [if_neg h5] at hm
  simp at hm
theorem GInv.stepG {c : PCat} {o : POp} {G : PGraph} (h : GInv G) : GInv (stepG c o G) := by
  unfold Hg.stepG
  split
  · exact h.doG ‹_›
  · exact h
end Go.Hg
