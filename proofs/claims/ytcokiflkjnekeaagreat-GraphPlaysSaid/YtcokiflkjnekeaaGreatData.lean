/- The program's plain data as Lean data, and how it lies in cells. No condition. -/
import Derived.Test.YtcokiflkjnekeaaGreatRows
import Derived.Test.YtcokiflkjnekeaaGreatBase
namespace Go.Hg
open Go.RowKit

structure PVal where
  kind : Int
  n : Int
  s : ByteArray
deriving DecidableEq

structure PProp where
  name : ByteArray
  v : PVal
deriving DecidableEq

structure PNode where
  id : Int
  typ : ByteArray
  props : List PProp
deriving DecidableEq

structure PEdge where
  id : Int
  typ : ByteArray
  from_ : Int
  to_ : Int
  props : List PProp
deriving DecidableEq

abbrev PVal.cells (v : PVal) : List Value := [.int .i64 v.kind, .int .i64 v.n, .string v.s]
abbrev PProp.cells (p : PProp) : List Value := [.string p.name, .int .i64 p.v.kind, .int .i64 p.v.n, .string p.v.s]
def RProp (p : PProp) (r : List Value) : Prop := r = p.cells
theorem oneCell_props (ps : List PProp) : ∀ u ∈ (ps.map PProp.cells).flatten, u.oneCell' = true := by
  intro u hu
  obtain ⟨r, hr, hur⟩ := List.mem_flatten.1 hu
  obtain ⟨p, _, rfl⟩ := List.mem_map.1 hr
  simp only [PProp.cells, List.mem_cons, List.not_mem_nil, or_false] at hur
  rcases hur with rfl | rfl | rfl | rfl <;> rfl
/-- properties that lie in blocks of S -/
def PropsR (S : Nat → Prop) (w : World) (v : Value) (ps : List PProp) : Prop := SlR S w 4 RProp v ps
def RNode (S : Nat → Prop) (w : World) (n : PNode) (r : List Value) : Prop := ∃ pv, r = [.int .i64 n.id, .string n.typ, pv] ∧ PropsR S w pv n.props
def REdge (S : Nat → Prop) (w : World) (n : PEdge) (r : List Value) : Prop := ∃ pv, r = [.int .i64 n.id, .string n.typ, .int .i64 n.from_, .int .i64 n.to_, pv] ∧ PropsR S w pv n.props
def NodesR (S : Nat → Prop) (w : World) (v : Value) (l : List PNode) : Prop := SlR S w 3 (RNode S w) v l
def EdgesR (S : Nat → Prop) (w : World) (v : Value) (l : List PEdge) : Prop := SlR S w 5 (REdge S w) v l

theorem PropsR.grow {S : Nat → Prop} {w w' : World} {v : Value} {ps : List PProp} (h : PropsR S w v ps) (g : Grow w w') : PropsR S w' v ps :=
  SlR.keep h (fun _ _ hb => g.heapEq hb) g.size (fun _ _ _ hR => hR)
theorem NodesR.grow {S : Nat → Prop} {w w' : World} {v : Value} {ps : List PNode} (h : NodesR S w v ps) (g : Grow w w') : NodesR S w' v ps :=
  SlR.keep h (fun _ _ hb => g.heapEq hb) g.size (fun _ _ _ ⟨pv, hr, hp⟩ => ⟨pv, hr, hp.grow g⟩)
theorem EdgesR.grow {S : Nat → Prop} {w w' : World} {v : Value} {ps : List PEdge} (h : EdgesR S w v ps) (g : Grow w w') : EdgesR S w' v ps :=
  SlR.keep h (fun _ _ hb => g.heapEq hb) g.size (fun _ _ _ ⟨pv, hr, hp⟩ => ⟨pv, hr, hp.grow g⟩)

/-- the four cells of a property, in a world that has grown -/
theorem RProp.at {w wr : World} {p : PProp} {r : List Value} {b o : Nat} (h : RProp p r) (hb : b < w.heap.size) (g : Grow w wr) (hc : ∀ (j : Nat) c, r[j]? = some c → w.cell? ⟨b, o + j, none⟩ = some c) :
    b < wr.heap.size ∧ wr.cell? ⟨b, o, none⟩ = some (.string p.name) ∧ wr.cell? ⟨b, o + 1, none⟩ = some (.int .i64 p.v.kind) ∧ wr.cell? ⟨b, o + 2, none⟩ = some (.int .i64 p.v.n) ∧ wr.cell? ⟨b, o + 3, none⟩ = some (.string p.v.s) := by
  unfold RProp at h; subst h
  have e : ∀ o', wr.cell? ⟨b, o', none⟩ = w.cell? ⟨b, o', none⟩ := fun o' => World.cell?_of_block (w := w) (g.heapEq hb)
  have hs := g.size
  refine ⟨by omega, ?_, ?_, ?_, ?_⟩ <;> rw [e]
  · exact hc 0 _ rfl
  · exact hc 1 _ rfl
  · exact hc 2 _ rfl
  · exact hc 3 _ rfl

theorem RNode.at {S : Nat → Prop} {w wr : World} {p : PNode} {r : List Value} {b o : Nat} (h : RNode S w p r) (hb : b < w.heap.size) (g : Grow w wr) (hc : ∀ (j : Nat) c, r[j]? = some c → w.cell? ⟨b, o + j, none⟩ = some c) :
    ∃ pv, b < wr.heap.size ∧ wr.cell? ⟨b, o, none⟩ = some (.int .i64 p.id) ∧ wr.cell? ⟨b, o + 1, none⟩ = some (.string p.typ) ∧ wr.cell? ⟨b, o + 2, none⟩ = some pv ∧ PropsR S wr pv p.props := by
  obtain ⟨pv, rfl, hp⟩ := h
  have e : ∀ o', wr.cell? ⟨b, o', none⟩ = w.cell? ⟨b, o', none⟩ := fun o' => World.cell?_of_block (w := w) (g.heapEq hb)
  have hs := g.size
  refine ⟨pv, by omega, ?_, ?_, ?_, hp.grow g⟩ <;> rw [e]
  · exact hc 0 _ rfl
  · exact hc 1 _ rfl
  · exact hc 2 _ rfl
theorem REdge.at {S : Nat → Prop} {w wr : World} {p : PEdge} {r : List Value} {b o : Nat} (h : REdge S w p r) (hb : b < w.heap.size) (g : Grow w wr) (hc : ∀ (j : Nat) c, r[j]? = some c → w.cell? ⟨b, o + j, none⟩ = some c) :
    ∃ pv, b < wr.heap.size ∧ wr.cell? ⟨b, o, none⟩ = some (.int .i64 p.id) ∧ wr.cell? ⟨b, o + 1, none⟩ = some (.string p.typ) ∧ wr.cell? ⟨b, o + 2, none⟩ = some (.int .i64 p.from_) ∧
      wr.cell? ⟨b, o + 3, none⟩ = some (.int .i64 p.to_) ∧ wr.cell? ⟨b, o + 4, none⟩ = some pv ∧ PropsR S wr pv p.props := by
  obtain ⟨pv, rfl, hp⟩ := h
  have e : ∀ o', wr.cell? ⟨b, o', none⟩ = w.cell? ⟨b, o', none⟩ := fun o' => World.cell?_of_block (w := w) (g.heapEq hb)
  have hs := g.size
  refine ⟨pv, by omega, ?_, ?_, ?_, ?_, ?_, hp.grow g⟩ <;> rw [e]
  · exact hc 0 _ rfl
  · exact hc 1 _ rfl
  · exact hc 2 _ rfl
  · exact hc 3 _ rfl
  · exact hc 4 _ rfl
/-- a properties' value is a slice -/
theorem PropsR.isSlice {S : Nat → Prop} {w : World} {v : Value} {ps : List PProp} (h : PropsR S w v ps) : ∃ a c, v = .slice a ps.length c := by
  obtain ⟨a, c, h, _⟩ := SlR.open h
  exact ⟨a, c, h⟩

end Go.Hg
