/- Counting edges by the nodes at which they begin. No condition. -/
import Derived.Test.YtcokiflkjnekeaaPlain
namespace Go.Hg

theorem sum_add {α : Type} (f g : α → Nat) : ∀ l : List α, (l.map fun x => f x + g x).sum = (l.map f).sum + (l.map g).sum
  | [] => rfl
  | x :: t => by simp only [List.map_cons, List.sum_cons, sum_add f g t]; omega
theorem sum_zero {α : Type} (f : α → Nat) : ∀ l : List α, (∀ x ∈ l, f x = 0) → (l.map f).sum = 0
  | [], _ => rfl
  | x :: t, h => by rw [List.map_cons, List.sum_cons, h x (by simp), sum_zero f t (fun y hy => h y (by simp [hy]))]
theorem sum_one (a : Int) : ∀ l : List PNode, (l.map (·.id)).Pairwise (· < ·) → (∃ n ∈ l, n.id = a) → (l.map fun n => if a = n.id then 1 else 0).sum = 1
  | [], _, h => by obtain ⟨n, hn, -⟩ := h; cases hn
  | x :: t, hp, h => by
    rw [List.map_cons, List.pairwise_cons] at hp
    rw [List.map_cons, List.sum_cons]
    by_cases hx : a = x.id
    · rw [if_pos hx, sum_zero]
      intro y hy
      have := hp.1 y.id (List.mem_map_of_mem hy)
      rw [if_neg (by omega)]
    · rw [if_neg hx, sum_one a t hp.2]
      obtain ⟨n, hn, hna⟩ := h
      rcases List.mem_cons.1 hn with rfl | hn
      · exact absurd hna.symm hx
      · exact ⟨n, hn, hna⟩
theorem sum_ends (f : PEdge → Int) (ns : List PNode) (hp : (ns.map (·.id)).Pairwise (· < ·)) : ∀ es : List PEdge, (∀ x ∈ es, ∃ n ∈ ns, n.id = f x) → (ns.map fun n => (es.filter fun x => decide (f x = n.id)).length).sum = es.length
  | [], _ => sum_zero _ _ (fun _ _ => rfl)
  | e :: t, h => by
    have e1 : (ns.map fun n => ((e :: t).filter fun x => decide (f x = n.id)).length) = ns.map fun n => (if f e = n.id then 1 else 0) + (t.filter fun x => decide (f x = n.id)).length := by
      refine List.map_congr_left fun n _ => ?_
      rw [List.filter_cons]
      by_cases hn : f e = n.id
      · rw [if_pos (decide_eq_true hn), if_pos hn, List.length_cons]; omega
      · rw [if_neg (by simpa using hn), if_neg hn]; omega
    rw [e1, sum_add, sum_one _ _ hp (h e (by simp)), sum_ends f ns hp t (fun x hx => h x (by simp [hx])), List.length_cons]; omega
theorem sum_take (l : List Nat) (k : Nat) : (l.take k).sum ≤ l.sum := by
  have := List.take_append_drop k l
  conv => rhs; rw [← this]
  rw [List.sum_append]; omega
/-- the Ids of the edges that begin (f) at a node -/
theorem someE_all (l : List PEdge) (p : PEdge → Bool) : someE l ByteArray.empty p = (l.filter p).map (·.id) := by
  unfold someE
  simp
theorem some_at {l : List PEdge} {p : PEdge → Bool} (hs : (l.map (·.id)).Pairwise (· < ·)) {i : Int} (h : i ∈ someE l ByteArray.empty p) : ∃ x, (l.find? fun x => decide (x.id = i)) = some x ∧ p x = true ∧ x.id = i := by
  rw [someE_all] at h
  obtain ⟨x, hx, rfl⟩ := List.mem_map.1 h
  obtain ⟨hx1, hx2⟩ := List.mem_filter.1 hx
  obtain ⟨j, hj⟩ := List.getElem?_of_mem hx1
  exact ⟨x, find_idx (fun x : PEdge => x.id) hs hj rfl, hx2, rfl⟩
theorem some_up {l : List PEdge} {p : PEdge → Bool} (hs : (l.map (·.id)).Pairwise (· < ·)) : (someE l ByteArray.empty p).Pairwise (· < ·) := by
  rw [someE_all]
  exact hs.sublist (map_sub _ _ _)
/-- how many edges begin at the first k nodes -/
def endsAt (f : PEdge → Int) (G : PGraph) (k : Nat) : Nat := ((G.nodes.map fun n => (someE G.edges ByteArray.empty fun x => decide (f x = n.id)).length).take k).sum
theorem endsAt_zero (f : PEdge → Int) (G : PGraph) : endsAt f G 0 = 0 := rfl
theorem endsAt_succ (f : PEdge → Int) (G : PGraph) {k : Nat} {n : PNode} (h : G.nodes[k]? = some n) : endsAt f G (k + 1) = endsAt f G k + (someE G.edges ByteArray.empty fun x => decide (f x = n.id)).length := by
  unfold endsAt
  rw [List.take_add_one, List.sum_append]
  simp [h]
theorem endsAt_all {f : PEdge → Int} {G : PGraph} (hs : (G.nodes.map (·.id)).Pairwise (· < ·)) (h : ∀ x ∈ G.edges, hasN G (f x) = true) : endsAt f G G.nodes.length = G.edges.length := by
  unfold endsAt
  rw [List.take_of_length_le (by simp)]
  have e : (G.nodes.map fun n => (someE G.edges ByteArray.empty fun x => decide (f x = n.id)).length) = G.nodes.map fun n => (G.edges.filter fun x => decide (f x = n.id)).length := by
    refine List.map_congr_left fun n _ => ?_
    rw [someE_all, List.length_map]
  rw [e, sum_ends f _ hs _ (fun x hx => hasN_true.1 (h x hx))]
theorem endsAt_le {f : PEdge → Int} {G : PGraph} (hs : (G.nodes.map (·.id)).Pairwise (· < ·)) (h : ∀ x ∈ G.edges, hasN G (f x) = true) (k : Nat) : endsAt f G k ≤ G.edges.length := by
  have h1 := endsAt_all hs h
  unfold endsAt at h1 ⊢
  rw [List.take_of_length_le (by simp)] at h1
  rw [← h1]
  exact sum_take _ _
end Go.Hg
