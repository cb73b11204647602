/- hedgerowref17: Node, Edge: where an Id stands. No condition. Printed by genrefn.py. -/
import Derived.Test.YtcokiflkjnekeaaGreatRead
namespace Go.Hg
open Go.RowKit Go.Proofs

/-- where something stands in a list, or -1 -/
def IdxAt {α : Type} (f : α → Int) (l : List α) (id r : Int) : Prop := (r = -1 ∧ (l.any fun y => decide (f y = id)) = false) ∨ ∃ (k : Nat) (x : α), r = k ∧ l[k]? = some x ∧ f x = id ∧ (l.any fun y => decide (f y = id)) = true
theorem IdxAt.neg {α : Type} {f : α → Int} {l : List α} {id r : Int} (h : IdxAt f l id r) : decide (r < 0) = !(l.any fun y => decide (f y = id)) := by
  rcases h with ⟨rfl, h⟩ | ⟨k, x, rfl, _, _, h⟩
  · rw [h]; rfl
  · rw [h]; simp
theorem IdxAt.pos {α : Type} {f : α → Int} {l : List α} {id r : Int} (h : IdxAt f l id r) : decide (0 ≤ r) = (l.any fun y => decide (f y = id)) := by
  rcases h with ⟨rfl, h⟩ | ⟨k, x, rfl, _, _, h⟩
  · rw [h]; rfl
  · rw [h]; simp
/-- the first place of an Id, or -1 -/
def idxZ {α : Type} (f : α → Int) (l : List α) (id : Int) : Int := match l.findIdx? fun y => decide (f y = id) with | some k => (k : Int) | none => -1
theorem idxZ_at {α : Type} (f : α → Int) (l : List α) (id : Int) : IdxAt f l id (idxZ f l id) := by
  unfold idxZ
  cases h : l.findIdx? fun y => decide (f y = id) with
  | none =>
    rw [List.findIdx?_eq_none_iff] at h
    exact .inl ⟨rfl, List.any_eq_false.2 (fun y hy => by have := h y hy; simpa using this)⟩
  | some k =>
    obtain ⟨hl, he, -⟩ := List.findIdx?_eq_some_iff_getElem.1 h
    exact .inr ⟨k, l[k], rfl, List.getElem?_eq_getElem hl, by simpa using he, List.any_eq_true.2 ⟨l[k], List.getElem_mem hl, he⟩⟩
theorem idxZ_hit {α : Type} {f : α → Int} {l : List α} {id : Int} {k : Nat} {x : α} (hx : l[k]? = some x) (hid : f x = id) (hall : ∀ y ∈ l.take k, f y ≠ id) : idxZ f l id = k := by
  obtain ⟨hl, rfl⟩ := List.getElem?_eq_some_iff.1 hx
  have h : (l.findIdx? fun y => decide (f y = id)) = some k := List.findIdx?_eq_some_iff_getElem.2 ⟨hl, by simpa using hid, fun j hj => by
    have := hall l[j] (List.mem_take_iff_getElem.2 ⟨j, by omega, rfl⟩)
    simpa using this⟩
  unfold idxZ
  rw [h]
theorem idxZ_miss {α : Type} {f : α → Int} {l : List α} {id : Int} (hall : ∀ y ∈ l, f y ≠ id) : idxZ f l id = -1 := by
  have h : (l.findIdx? fun y => decide (f y = id)) = none := List.findIdx?_eq_none_iff.2 fun y hy => by have := hall y hy; simpa using this
  unfold idxZ
  rw [h]

set_option maxRecDepth 100000 in
set_option maxHeartbeats 1000000 in
theorem refNode (S : Nat → Prop) (B : Nat) (G : PGraph) (id : Int) (w : World) (h : GraphRd 70 S w B G) :
    Calls Tryz.prog 26 #[.pointer (some ⟨B, 0, none⟩), .int .i64 id] w fun e w' => e = .returned (.int .i64 (idxZ (fun x : PNode => x.id) G.nodes id)) ∧ w' = w := by
  obtain ⟨na, nc, ea, ec, hB, g0, g1, g2, hn, -⟩ := h.read
  obtain ⟨_, _, hv, hal, hac, hA⟩ := SlR.open hn
  simp only [Value.slice.injEq, true_and] at hv
  obtain ⟨rfl, rfl⟩ := hv
  unfold maxLen at hac
  have HA := Lib.hid hA
  clear h hn hA
  generalize hll : G.nodes = l at *
  have HLL := Lib.hid hll
  clear hll
  go_enter Tryz.func26, Tryz.ntmps26
  go_wp2
  go_loopg [5] l.length (fun g i wr => ∃ k : Nat, k ≤ l.length ∧ g = l.length - k ∧ i = .int .i64 k ∧ (∀ y ∈ l.take k, y.id ≠ id) ∧ wr = w)
  case atStart => exact ⟨0, by omega, by omega, rfl, by simp, rfl⟩
  case round =>
    obtain ⟨k, hk, rfl, rfl, hall, rfl⟩ := hrel
    have HALL := Lib.hid hall; clear hall
    by_cases hkl : k < l.length
    · obtain ⟨ba, oa, ra, rfl, hSa, hba, hRa, hca⟩ := HA.out k l[k] (List.getElem?_eq_getElem hkl)
      obtain ⟨pva, hba', a0, a1, a2, hpa⟩ := hRa.at hba (Grow.rfl' _) hca
      clear hca hRa hSa hba hpa
      have HE := Lib.hid (show l[k]? = some l[k] from List.getElem?_eq_getElem hkl)
      have HT := Lib.hid (show l.take (k + 1) = l.take k ++ [l[k]] from List.take_succ_eq_append_getElem hkl)
      generalize l[k] = x at *
      by_cases hx : x.id = id
      · have hx' : (x.id == id) = true := by simpa using hx
        have HX := Lib.hid hx
        clear hx
        go_wp2
        go_ret
        exact ⟨by rw [idxZ_hit HE.out HX.out HALL.out]; rfl, rfl⟩
      · have hx' : (x.id == id) = false := by simpa using hx
        have HX := Lib.hid hx
        clear hx
        go_wp2_with fail
        go_roundg (l.length - (k + 1))
        case measure => omega
        case rel => exact ⟨k + 1, by omega, rfl, by go_num, by rw [HT.out]; intro y hy; rcases List.mem_append.1 hy with h | h; exact HALL.out y h; simp at h; subst h; exact HX.out, rfl⟩
    · have h1 : l.take k = l := List.take_of_length_le (by omega)
      have h2 := HALL.out
      rw [h1] at h2
      have H2 := Lib.hid h2
      clear h1 h2
      go_wp2
      go_ret
      exact ⟨by rw [idxZ_miss H2.out]; rfl, rfl⟩

set_option maxRecDepth 100000 in
set_option maxHeartbeats 1000000 in
theorem refEdge (S : Nat → Prop) (B : Nat) (G : PGraph) (id : Int) (w : World) (h : GraphRd 70 S w B G) :
    Calls Tryz.prog 28 #[.pointer (some ⟨B, 0, none⟩), .int .i64 id] w fun e w' => e = .returned (.int .i64 (idxZ (fun x : PEdge => x.id) G.edges id)) ∧ w' = w := by
  obtain ⟨na, nc, ea, ec, hB, g0, g1, g2, -, hn⟩ := h.read
  obtain ⟨_, _, hv, hal, hac, hA⟩ := SlR.open hn
  simp only [Value.slice.injEq, true_and] at hv
  obtain ⟨rfl, rfl⟩ := hv
  unfold maxLen at hac
  have HA := Lib.hid hA
  clear h hn hA
  generalize hll : G.edges = l at *
  have HLL := Lib.hid hll
  clear hll
  go_enter Tryz.func28, Tryz.ntmps28
  go_wp2
  go_loopg [5] l.length (fun g i wr => ∃ k : Nat, k ≤ l.length ∧ g = l.length - k ∧ i = .int .i64 k ∧ (∀ y ∈ l.take k, y.id ≠ id) ∧ wr = w)
  case atStart => exact ⟨0, by omega, by omega, rfl, by simp, rfl⟩
  case round =>
    obtain ⟨k, hk, rfl, rfl, hall, rfl⟩ := hrel
    have HALL := Lib.hid hall; clear hall
    by_cases hkl : k < l.length
    · obtain ⟨ba, oa, ra, rfl, hSa, hba, hRa, hca⟩ := HA.out k l[k] (List.getElem?_eq_getElem hkl)
      obtain ⟨pva, hba', a0, a1, a2, a3, a4, hpa⟩ := hRa.at hba (Grow.rfl' _) hca
      clear hca hRa hSa hba hpa
      have HE := Lib.hid (show l[k]? = some l[k] from List.getElem?_eq_getElem hkl)
      have HT := Lib.hid (show l.take (k + 1) = l.take k ++ [l[k]] from List.take_succ_eq_append_getElem hkl)
      generalize l[k] = x at *
      by_cases hx : x.id = id
      · have hx' : (x.id == id) = true := by simpa using hx
        have HX := Lib.hid hx
        clear hx
        go_wp2
        go_ret
        exact ⟨by rw [idxZ_hit HE.out HX.out HALL.out]; rfl, rfl⟩
      · have hx' : (x.id == id) = false := by simpa using hx
        have HX := Lib.hid hx
        clear hx
        go_wp2_with fail
        go_roundg (l.length - (k + 1))
        case measure => omega
        case rel => exact ⟨k + 1, by omega, rfl, by go_num, by rw [HT.out]; intro y hy; rcases List.mem_append.1 hy with h | h; exact HALL.out y h; simp at h; subst h; exact HX.out, rfl⟩
    · have h1 : l.take k = l := List.take_of_length_le (by omega)
      have h2 := HALL.out
      rw [h1] at h2
      have H2 := Lib.hid h2
      clear h1 h2
      go_wp2
      go_ret
      exact ⟨by rw [idxZ_miss H2.out]; rfl, rfl⟩
end Go.Hg
