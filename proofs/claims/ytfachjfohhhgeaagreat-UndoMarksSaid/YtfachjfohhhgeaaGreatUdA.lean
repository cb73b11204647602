/- Worlds that grow, worlds that are changed in a set of blocks alone, slices that read as lists: words for contracts; Maps with keys of int64, whatever the elements: a function's view; The program's plain data as Lean data, and how it lies in cells; Who is near whom: the plain words, who is reached, which path is told; A slice that is one's own: a whole row of a block, or empty without capacity; what append makes of it; Slices of nodes and edges that are one's own; hedgerowkeep.CopyNodes, CopyEdges: the same in new memory; slices.Clone at nodes, edges and properties. Conditions: those that each theorem names. -/
import Derived.WalkKit
import Derived.WalkSpells
import Derived.WalkLawsBesides
import Derived.Lib.Hide
import Derived.BigQuiet
import Derived.Deep.LoopGhost
import Derived.Maps.OwnOps
import Derived.Maps.OwnSet
import Derived.Carry
import Derived.Test.YtfachjfohhhgeaaGreatRows
import Derived.Lib.SliceRun
namespace Go.Hg
open Go.RowKit

abbrev Grow (w w' : World) : Prop := Below w.heap.size w w'

theorem Grow.rfl' (w : World) : Grow w w := Below.refl _ _
theorem Grow.step {a b c : World} (h : Grow a b) (k : Grow b c) : Grow a c := h.trans (k.mono h.size)
theorem Grow.allocd {a b : World} (h : Grow a b) (o : Obj) : Grow a (b.alloc o) := h.alloc h.size o
theorem Grow.drewd {a b : World} (h : Grow a b) : Grow a b.drew := h.drew
theorem Grow.heapEq {a b : World} (h : Grow a b) {k : Nat} (hk : k < a.heap.size) : b.heap[k]? = a.heap[k]? := h.block k hk

structure Mod (F : Nat → Prop) (w w' : World) : Prop where
  os : w'.os = w.os
  tape : w'.tape = w.tape
  output : w'.output = w.output
  size : w.heap.size ≤ w'.heap.size
  block : ∀ k, k < w.heap.size → ¬ F k → w'.heap[k]? = w.heap[k]?

theorem Mod.rfl' (F : Nat → Prop) (w : World) : Mod F w w := ⟨rfl, rfl, rfl, Nat.le_refl _, fun _ _ _ => rfl⟩
theorem Mod.of_grow {F : Nat → Prop} {w w' : World} (h : Grow w w') : Mod F w w' := ⟨h.os, h.tape, h.output, h.size, fun k hk _ => h.block k hk⟩
theorem Mod.step {F : Nat → Prop} {a b c : World} (h : Mod F a b) (k : Mod F b c) : Mod F a c :=
  ⟨k.os.trans h.os, k.tape.trans h.tape, k.output.trans h.output, Nat.le_trans h.size k.size, fun i hi hF => (k.block i (Nat.lt_of_lt_of_le hi h.size) hF).trans (h.block i hi hF)⟩
theorem Mod.step' {F F' : Nat → Prop} {a b c : World} (h : Mod F a b) (k : Mod F' b c) (hF : ∀ x, F' x → F x ∨ a.heap.size ≤ x) : Mod F a c :=
  ⟨k.os.trans h.os, k.tape.trans h.tape, k.output.trans h.output, Nat.le_trans h.size k.size, fun i hi hn =>
    (k.block i (Nat.lt_of_lt_of_le hi h.size) (fun h' => (hF i h').elim hn (fun hh => by omega))).trans (h.block i hi hn)⟩
theorem Mod.mono {F F' : Nat → Prop} {a b : World} (h : Mod F a b) (hF : ∀ x, F x → F' x) : Mod F' a b :=
  ⟨h.os, h.tape, h.output, h.size, fun k hk hn => h.block k hk (fun h' => hn (hF k h'))⟩
theorem Mod.allocd {F : Nat → Prop} {a b : World} (h : Mod F a b) (o : Obj) : Mod F a (b.alloc o) := h.step (Mod.of_grow ((Grow.rfl' b).allocd o))
theorem Mod.drewd {F : Nat → Prop} {a b : World} (h : Mod F a b) : Mod F a b.drew := h.step (Mod.of_grow ((Grow.rfl' b).drewd))
theorem Mod.setd {F : Nat → Prop} {a b : World} (h : Mod F a b) {p : Addr} (hp : F p.block ∨ a.heap.size ≤ p.block) (u : Value) : Mod F a (b.setCell p u) :=
  h.step' (F' := fun x => x = p.block) ⟨rfl, rfl, rfl, by simp, fun k _ hk => Below.heap_setCell _ _ _ _ hk⟩ (fun x hx => by subst hx; exact hp)
theorem Mod.grow {a b : World} (h : Mod (fun _ => False) a b) : Grow a b := ⟨h.os, h.tape, h.output, h.size, fun k hk => h.block k hk id⟩

theorem Grow.modd {F : Nat → Prop} {a b c : World} (h : Grow a b) (k : Mod F b c) (hF : ∀ x, F x → a.heap.size ≤ x) : Grow a c :=
  h.trans ⟨k.os, k.tape, k.output, k.size, fun i hi => k.block i (Nat.lt_of_lt_of_le hi h.size) (fun h' => by have := hF i h'; omega)⟩
theorem Grow.setd {a b : World} (h : Grow a b) {p : Addr} (hp : a.heap.size ≤ p.block) (u : Value) : Grow a (b.setCell p u) := h.setCell hp u
theorem blk_cell {w : World} {b : Nat} {cs : Array Value} {e : TypeId} {fr : Nat × Nat} (h : w.heap[b]? = some (.cells cs e fr)) (o : Nat) : w.cell? ⟨b, o, none⟩ = cs[o]? := by
  simp [World.cell?, h]
theorem blk_free {w : World} {b : Nat} {cs : Array Value} {e : TypeId} (h : w.heap[b]? = some (.cells cs e (0, 0))) (o : Nat) : w.frozen? ⟨b, o, none⟩ = false := by
  simp [World.frozen?, h]
theorem blk_lt {w : World} {b : Nat} {o : Obj} (h : w.heap[b]? = some o) : b < w.heap.size := (Array.getElem?_eq_some_iff.1 h).1
theorem cell_lt {w : World} {b o : Nat} {v : Value} (h : w.cell? ⟨b, o, none⟩ = some v) : b < w.heap.size := World.block_lt_of_cell? w _ h

def SlR {α : Type} (S : Nat → Prop) (w : World) (sz : Nat) (R : α → List Value → Prop) (v : Value) (l : List α) : Prop :=
  ∃ a cap, ∃ rows : List (List Value), v = .slice a l.length cap ∧ l.length ≤ cap ∧ cap ≤ maxLen ∧ rows.length = l.length ∧
    (∀ (k : Nat) x r, l[k]? = some x → rows[k]? = some r → R x r) ∧
    (0 < l.length → ∃ b off, a = some ⟨b, off, none⟩ ∧ S b ∧ b < w.heap.size ∧
      ∀ (k : Nat) r (j : Nat) c, rows[k]? = some r → r[j]? = some c → w.cell? ⟨b, off + k * sz + j, none⟩ = some c)

theorem SlR.keep {α : Type} {S : Nat → Prop} {w w' : World} {sz : Nat} {R R' : α → List Value → Prop} {v : Value} {l : List α} (h : SlR S w sz R v l)
    (hw : ∀ b, S b → b < w.heap.size → w'.heap[b]? = w.heap[b]?) (hs : w.heap.size ≤ w'.heap.size) (hR : ∀ x r, x ∈ l → R x r → R' x r) : SlR S w' sz R' v l := by
  obtain ⟨a, cap, rows, hv, hl, hc, hr, hR1, h⟩ := h
  refine ⟨a, cap, rows, hv, hl, hc, hr, fun k x r h1 h2 => hR _ _ (List.mem_of_getElem? h1) (hR1 k x r h1 h2), fun h0 => ?_⟩
  obtain ⟨b, off, ha, hS, hb, hcell⟩ := h h0
  exact ⟨b, off, ha, hS, Nat.lt_of_lt_of_le hb hs, fun k r j c h1 h2 => (World.cell?_of_block (w := w) (hw b hS hb)).trans (hcell k r j c h1 h2)⟩

theorem SlR.sub {α : Type} {S S' : Nat → Prop} {w : World} {sz : Nat} {R R' : α → List Value → Prop} {v : Value} {l : List α} (h : SlR S w sz R v l)
    (hS : ∀ b, S b → S' b) (hR : ∀ x r, x ∈ l → R x r → R' x r) : SlR S' w sz R' v l := by
  obtain ⟨a, cap, rows, hv, hl, hc, hr, hR1, h⟩ := h
  refine ⟨a, cap, rows, hv, hl, hc, hr, fun k x r h1 h2 => hR _ _ (List.mem_of_getElem? h1) (hR1 k x r h1 h2), fun h0 => ?_⟩
  obtain ⟨b, off, ha, hS', hb, hcell⟩ := h h0
  exact ⟨b, off, ha, hS _ hS', hb, hcell⟩

theorem SlR.open {α : Type} {S : Nat → Prop} {w : World} {sz : Nat} {R : α → List Value → Prop} {v : Value} {l : List α} (h : SlR S w sz R v l) :
    ∃ a cap, v = .slice a l.length cap ∧ l.length ≤ cap ∧ cap ≤ maxLen ∧
      ∀ (k : Nat) x, l[k]? = some x → ∃ b off r, a = some ⟨b, off, none⟩ ∧ S b ∧ b < w.heap.size ∧ R x r ∧
        ∀ (j : Nat) c, r[j]? = some c → w.cell? ⟨b, off + k * sz + j, none⟩ = some c := by
  obtain ⟨a, cap, rows, hv, hl, hc, hr, hR1, h⟩ := h
  refine ⟨a, cap, hv, hl, hc, fun k x hx => ?_⟩
  have hk : k < l.length := (List.getElem?_eq_some_iff.1 hx).1
  obtain ⟨b, off, ha, hS, hb, hcell⟩ := h (by omega)
  have hrk : rows[k]? = some rows[k] := List.getElem?_eq_getElem (by omega)
  exact ⟨b, off, rows[k], ha, hS, hb, hR1 k x _ hx hrk, fun j c hj => hcell k _ j c hrk hj⟩

structure Gr (w : World) where
  x : World
  h : Grow w x
instance (w : World) : Nonempty (Gr w) := ⟨⟨w, Grow.rfl' w⟩⟩
@[go_sem] theorem gr_cell {w : World} (g : Gr w) {b o : Nat} (h : b < w.heap.size) : g.x.cell? ⟨b, o, none⟩ = w.cell? ⟨b, o, none⟩ := World.cell?_of_block (w := w) (g.h.block b h)
@[go_sem] theorem gr_free {w : World} (g : Gr w) {b o : Nat} (h : b < w.heap.size) : g.x.frozen? ⟨b, o, none⟩ = w.frozen? ⟨b, o, none⟩ := World.frozen?_of_block (w := w) (g.h.block b h)

theorem wp_region_grow {P : Program} {id : Nat} {Q : Exit → Act → World → Prop} {a : Act} {w : World} {l : List Oper} (hm : P.follows .mixedOrders = true) (hB : Region.lexB .any l.toArray = true)
    (h : wpQuiet P l.toArray (fun w' => ∃ g : Gr w, w' = g.x) (fun a' => ∀ w', Grow w w' → Q .normal a' w') l a) : (Code.region id l.toArray true).wp P Q a w := by
  refine wp_region_quiet (C := fun w' => ∃ g : Gr w, w' = g.x) hm hB ⟨⟨_, (Grow.rfl' w).drewd⟩, rfl⟩ ?_
  have e : (fun a' => ∀ w', (∃ g : Gr w, w' = g.x) → Q .normal a' w') = (fun a' => ∀ w', Grow w w' → Q .normal a' w') := by
    funext a'
    exact propext ⟨fun h w' hw => h w' ⟨⟨w', hw⟩, rfl⟩, fun h w' ⟨g, hg⟩ => hg ▸ h _ g.h⟩
  rw [e]
  simpa using h
theorem calls_gr {P : Program} {f : FuncId} {args : Array Value} {w : World} {g : Gr w} {v : Value}
    (h : Calls P f args g.x fun e w' => e = .returned v ∧ Grow g.x w') : Calls P f args g.x fun e w'' => e = .returned v ∧ ∃ g' : Gr w, w'' = g'.x :=
  h.mono fun _ w'' ⟨he, hw⟩ => ⟨he, ⟨w'', g.h.step hw⟩, rfl⟩

theorem ba_beq (a b : ByteArray) : (a.toList == b.toList) = decide (a = b) := by
  rw [ByteArray.toList_eq, ByteArray.toList_eq]
  by_cases h : a = b
  · subst h; simp
  · have h2 : ¬ a.data.toList = b.data.toList := fun e => h (ByteArray.ext (Array.toList_inj.1 e))
    rw [decide_eq_false h]
    exact beq_eq_false_iff_ne.2 h2
attribute [go_sem] ba_beq

end Go.Hg

namespace Go.Hg
open MapKept

def MapI (w : World) (b : Nat) (f : Int → Option Value) (n : Nat) : Prop :=
  ∃ es clock, w.heap[b]? = some (.map es clock) ∧ Stamped es clock ∧ es.size ≤ n ∧ (∀ x ∈ es.toList, ∃ k, x.key = .int .i64 k) ∧ ∀ k v, f k = some v ↔ ∃ x ∈ es.toList, x.key = .int .i64 k ∧ x.val = v
theorem MapI.lt {w : World} {b n : Nat} {f : Int → Option Value} (h : MapI w b f n) : b < w.heap.size := by
  obtain ⟨es, c, hb, -⟩ := h
  exact (Array.getElem?_eq_some_iff.1 hb).1
theorem MapI.mono {w : World} {b n n' : Nat} {f : Int → Option Value} (h : MapI w b f n) (hn : n ≤ n') : MapI w b f n' := by
  obtain ⟨es, c, hb, hs, hz, r⟩ := h
  exact ⟨es, c, hb, hs, Nat.le_trans hz hn, r⟩
theorem MapI.keep {w w' : World} {b n : Nat} {f : Int → Option Value} (h : MapI w b f n) (hw : w'.heap[b]? = w.heap[b]?) : MapI w' b f n := by
  obtain ⟨es, c, hb, r⟩ := h
  exact ⟨es, c, hw.trans hb, r⟩
theorem MapI.mod {w w' : World} {b n : Nat} {f : Int → Option Value} {F : Nat → Prop} (h : MapI w b f n) (hm : Mod F w w') (hF : ¬ F b) : MapI w' b f n := h.keep (hm.block b h.lt hF)
theorem MapI.grow {w w' : World} {b n : Nat} {f : Int → Option Value} (h : MapI w b f n) (hg : Grow w w') : MapI w' b f n := h.keep (hg.heapEq h.lt)
section
variable {P : Program} {w : World} {b n : Nat} {f : Int → Option Value} {t kt et : TypeId}
variable {ops : Array Oper} {rest : List Oper} {o : Oper} {a : Act} {Q : Exit → Act → World → Prop}
end
end Go.Hg

namespace Go.Hg
open Go.RowKit

structure PVal where
  kind : Int
  n : Int
  s : ByteArray
deriving DecidableEq

structure PProp where
  name : ByteArray
  v : PVal
deriving DecidableEq

structure PNode where
  id : Int
  typ : ByteArray
  props : List PProp
deriving DecidableEq

structure PEdge where
  id : Int
  typ : ByteArray
  from_ : Int
  to_ : Int
  props : List PProp
deriving DecidableEq

abbrev PVal.cells (v : PVal) : List Value := [.int .i64 v.kind, .int .i64 v.n, .string v.s]
abbrev PProp.cells (p : PProp) : List Value := [.string p.name, .int .i64 p.v.kind, .int .i64 p.v.n, .string p.v.s]
def RProp (p : PProp) (r : List Value) : Prop := r = p.cells
theorem oneCell_props (ps : List PProp) : ∀ u ∈ (ps.map PProp.cells).flatten, u.oneCell' = true := by
  intro u hu
  obtain ⟨r, hr, hur⟩ := List.mem_flatten.1 hu
  obtain ⟨p, _, rfl⟩ := List.mem_map.1 hr
  simp only [PProp.cells, List.mem_cons, List.not_mem_nil, or_false] at hur
  rcases hur with rfl | rfl | rfl | rfl <;> rfl
def PropsR (S : Nat → Prop) (w : World) (v : Value) (ps : List PProp) : Prop := SlR S w 4 RProp v ps
def RNode (S : Nat → Prop) (w : World) (n : PNode) (r : List Value) : Prop := ∃ pv, r = [.int .i64 n.id, .string n.typ, pv] ∧ PropsR S w pv n.props
def REdge (S : Nat → Prop) (w : World) (n : PEdge) (r : List Value) : Prop := ∃ pv, r = [.int .i64 n.id, .string n.typ, .int .i64 n.from_, .int .i64 n.to_, pv] ∧ PropsR S w pv n.props
def NodesR (S : Nat → Prop) (w : World) (v : Value) (l : List PNode) : Prop := SlR S w 3 (RNode S w) v l
def EdgesR (S : Nat → Prop) (w : World) (v : Value) (l : List PEdge) : Prop := SlR S w 5 (REdge S w) v l

theorem PropsR.grow {S : Nat → Prop} {w w' : World} {v : Value} {ps : List PProp} (h : PropsR S w v ps) (g : Grow w w') : PropsR S w' v ps :=
  SlR.keep h (fun _ _ hb => g.heapEq hb) g.size (fun _ _ _ hR => hR)
theorem NodesR.grow {S : Nat → Prop} {w w' : World} {v : Value} {ps : List PNode} (h : NodesR S w v ps) (g : Grow w w') : NodesR S w' v ps :=
  SlR.keep h (fun _ _ hb => g.heapEq hb) g.size (fun _ _ _ ⟨pv, hr, hp⟩ => ⟨pv, hr, hp.grow g⟩)
theorem EdgesR.grow {S : Nat → Prop} {w w' : World} {v : Value} {ps : List PEdge} (h : EdgesR S w v ps) (g : Grow w w') : EdgesR S w' v ps :=
  SlR.keep h (fun _ _ hb => g.heapEq hb) g.size (fun _ _ _ ⟨pv, hr, hp⟩ => ⟨pv, hr, hp.grow g⟩)

theorem RProp.at {w wr : World} {p : PProp} {r : List Value} {b o : Nat} (h : RProp p r) (hb : b < w.heap.size) (g : Grow w wr) (hc : ∀ (j : Nat) c, r[j]? = some c → w.cell? ⟨b, o + j, none⟩ = some c) :
    b < wr.heap.size ∧ wr.cell? ⟨b, o, none⟩ = some (.string p.name) ∧ wr.cell? ⟨b, o + 1, none⟩ = some (.int .i64 p.v.kind) ∧ wr.cell? ⟨b, o + 2, none⟩ = some (.int .i64 p.v.n) ∧ wr.cell? ⟨b, o + 3, none⟩ = some (.string p.v.s) := by
  unfold RProp at h; subst h
  have e : ∀ o', wr.cell? ⟨b, o', none⟩ = w.cell? ⟨b, o', none⟩ := fun o' => World.cell?_of_block (w := w) (g.heapEq hb)
  have hs := g.size
  refine ⟨by omega, ?_, ?_, ?_, ?_⟩ <;> rw [e]
  · exact hc 0 _ rfl
  · exact hc 1 _ rfl
  · exact hc 2 _ rfl
  · exact hc 3 _ rfl

theorem RNode.at {S : Nat → Prop} {w wr : World} {p : PNode} {r : List Value} {b o : Nat} (h : RNode S w p r) (hb : b < w.heap.size) (g : Grow w wr) (hc : ∀ (j : Nat) c, r[j]? = some c → w.cell? ⟨b, o + j, none⟩ = some c) :
    ∃ pv, b < wr.heap.size ∧ wr.cell? ⟨b, o, none⟩ = some (.int .i64 p.id) ∧ wr.cell? ⟨b, o + 1, none⟩ = some (.string p.typ) ∧ wr.cell? ⟨b, o + 2, none⟩ = some pv ∧ PropsR S wr pv p.props := by
  obtain ⟨pv, rfl, hp⟩ := h
  have e : ∀ o', wr.cell? ⟨b, o', none⟩ = w.cell? ⟨b, o', none⟩ := fun o' => World.cell?_of_block (w := w) (g.heapEq hb)
  have hs := g.size
  refine ⟨pv, by omega, ?_, ?_, ?_, hp.grow g⟩ <;> rw [e]
  · exact hc 0 _ rfl
  · exact hc 1 _ rfl
  · exact hc 2 _ rfl
theorem REdge.at {S : Nat → Prop} {w wr : World} {p : PEdge} {r : List Value} {b o : Nat} (h : REdge S w p r) (hb : b < w.heap.size) (g : Grow w wr) (hc : ∀ (j : Nat) c, r[j]? = some c → w.cell? ⟨b, o + j, none⟩ = some c) :
    ∃ pv, b < wr.heap.size ∧ wr.cell? ⟨b, o, none⟩ = some (.int .i64 p.id) ∧ wr.cell? ⟨b, o + 1, none⟩ = some (.string p.typ) ∧ wr.cell? ⟨b, o + 2, none⟩ = some (.int .i64 p.from_) ∧
      wr.cell? ⟨b, o + 3, none⟩ = some (.int .i64 p.to_) ∧ wr.cell? ⟨b, o + 4, none⟩ = some pv ∧ PropsR S wr pv p.props := by
  obtain ⟨pv, rfl, hp⟩ := h
  have e : ∀ o', wr.cell? ⟨b, o', none⟩ = w.cell? ⟨b, o', none⟩ := fun o' => World.cell?_of_block (w := w) (g.heapEq hb)
  have hs := g.size
  refine ⟨pv, by omega, ?_, ?_, ?_, ?_, ?_, hp.grow g⟩ <;> rw [e]
  · exact hc 0 _ rfl
  · exact hc 1 _ rfl
  · exact hc 2 _ rfl
  · exact hc 3 _ rfl
  · exact hc 4 _ rfl
theorem PropsR.isSlice {S : Nat → Prop} {w : World} {v : Value} {ps : List PProp} (h : PropsR S w v ps) : ∃ a c, v = .slice a ps.length c := by
  obtain ⟨a, c, h, _⟩ := SlR.open h
  exact ⟨a, c, h⟩

end Go.Hg

namespace Go.Hg

def fitE (typ : ByteArray) (e : PEdge) : Bool := decide (typ = ByteArray.empty) || decide (e.typ = typ)
def outsE (E : List PEdge) (typ : ByteArray) (x : Int) : List PEdge := E.filter fun e => fitE typ e && decide (e.from_ = x)
def insE (E : List PEdge) (typ : ByteArray) (y : Int) : List PEdge := E.filter fun e => fitE typ e && decide (e.to_ = y)
def StepE (E : List PEdge) (typ : ByteArray) (x y : Int) : Prop := ∃ e ∈ E, fitE typ e = true ∧ e.from_ = x ∧ e.to_ = y
theorem stepE_outs {E : List PEdge} {typ : ByteArray} {x y : Int} : StepE E typ x y ↔ ∃ e ∈ outsE E typ x, e.to_ = y := by
  simp only [StepE, outsE, List.mem_filter, Bool.and_eq_true, decide_eq_true_eq]
  constructor
  · rintro ⟨e, h1, h2, h3, h4⟩
    exact ⟨e, ⟨h1, h2, h3⟩, h4⟩
  · rintro ⟨e, ⟨h1, h2, h3⟩, h4⟩
    exact ⟨e, h1, h2, h3, h4⟩
theorem stepE_ins {E : List PEdge} {typ : ByteArray} {x y : Int} : StepE E typ x y ↔ ∃ e ∈ insE E typ y, e.from_ = x := by
  simp only [StepE, insE, List.mem_filter, Bool.and_eq_true, decide_eq_true_eq]
  constructor
  · rintro ⟨e, h1, h2, h3, h4⟩
    exact ⟨e, ⟨h1, h2, h4⟩, h3⟩
  · rintro ⟨e, ⟨h1, h2, h3⟩, h4⟩
    exact ⟨e, h1, h2, h4, h3⟩

def RSet (l : List Int) (p : Int → Prop) : Prop := l.Pairwise (· < ·) ∧ ∀ y, y ∈ l ↔ p y
theorem RSet.same : ∀ {l l' : List Int}, l.Pairwise (· < ·) → l'.Pairwise (· < ·) → (∀ y, y ∈ l ↔ y ∈ l') → l = l'
  | [], [], _, _, _ => rfl
  | [], b :: t, _, _, h => by have := (h b).2 (.head _); cases this
  | a :: s, [], _, _, h => by have := (h a).1 (.head _); cases this
  | a :: s, b :: t, h1, h2, h => by
    rw [List.pairwise_cons] at h1 h2
    have hab : a = b := by
      have ha := (h a).1 (.head _)
      have hb := (h b).2 (.head _)
      rcases List.mem_cons.1 ha with r | ha
      · exact r
      rcases List.mem_cons.1 hb with r | hb
      · exact r.symm
      have := h2.1 a ha
      have := h1.1 b hb
      omega
    subst hab
    refine congrArg (a :: ·) (RSet.same h1.2 h2.2 fun y => ?_)
    constructor
    · intro hy
      have := h1.1 y hy
      rcases List.mem_cons.1 ((h y).1 (.tail _ hy)) with r | r
      · omega
      · exact r
    · intro hy
      have := h2.1 y hy
      rcases List.mem_cons.1 ((h y).2 (.tail _ hy)) with r | r
      · omega
      · exact r
theorem RSet.nil {p : Int → Prop} (hp : ∀ y, ¬ p y) : RSet [] p := ⟨.nil, fun y => by simp [hp]⟩

def Rch (E : List PEdge) (typ : ByteArray) : Nat → Int → Int → Prop
  | 0, _, _ => False
  | n + 1, x, y => StepE E typ x y ∨ ∃ z, Rch E typ n x z ∧ StepE E typ z y
section
variable {E : List PEdge} {typ : ByteArray}
theorem Rch.succ : ∀ {n : Nat} {x y : Int}, Rch E typ n x y → Rch E typ (n + 1) x y
  | 0, _, _, h => h.elim
  | _ + 1, _, _, .inl h => .inl h
  | _ + 1, _, _, .inr ⟨z, h1, h2⟩ => .inr ⟨z, h1.succ, h2⟩
theorem Rch.mono {n m : Nat} {x y : Int} (h : Rch E typ n x y) (hm : n ≤ m) : Rch E typ m x y := by
  induction m with
  | zero => cases Nat.le_zero.1 hm; exact h
  | succ m ih =>
    rcases Nat.lt_or_ge n (m + 1) with h1 | h1
    · exact (ih (by omega)).succ
    · have : n = m + 1 := by omega
      exact this ▸ h
theorem Rch.ends : ∀ {n : Nat} {x y : Int}, Rch E typ n x y → ∃ e ∈ E, e.to_ = y
  | _ + 1, _, _, .inl ⟨e, h1, _, _, h4⟩ => ⟨e, h1, h4⟩
  | _ + 1, _, _, .inr ⟨_, _, e, h1, _, _, h4⟩ => ⟨e, h1, h4⟩
theorem nodup_le {α β : Type} [DecidableEq β] (f : α → β) : ∀ (E : List α) (l : List β), l.Nodup → (∀ y ∈ l, ∃ e ∈ E, f e = y) → l.length ≤ E.length
  | [], [], _, _ => Nat.le_refl _
  | [], y :: _, _, h => by obtain ⟨e, he, _⟩ := h y (.head _); cases he
  | e :: t, l, hn, h => by
    have h1 := nodup_le f t (l.erase (f e)) (hn.erase _) (fun y hy => by
      obtain ⟨hne, hy⟩ := (hn.mem_erase_iff).1 hy
      obtain ⟨e', he', rfl⟩ := h y hy
      rcases List.mem_cons.1 he' with rfl | he'
      · exact absurd rfl hne
      · exact ⟨e', he', rfl⟩)
    have h2 : l.length ≤ (l.erase (f e)).length + 1 := by
      rw [List.length_erase]
      split <;> omega
    simp only [List.length_cons]
    omega

structure FrI (E : List PEdge) (typ : ByteArray) (M nx r : List Int) (j : Nat) (seen : List PEdge) : Prop where
  nodup : (M ++ nx).Nodup
  new : ∀ y ∈ nx, ∃ x ∈ r, StepE E typ x y
  gone : ∀ x ∈ r.take j, ∀ y, StepE E typ x y → y ∈ M ∨ y ∈ nx
  seen : ∀ e ∈ seen, e.to_ ∈ M ∨ e.to_ ∈ nx
  ends : ∀ y ∈ M ++ nx, ∃ e ∈ E, e.to_ = y
theorem FrI.add {M nx r : List Int} {j : Nat} {seen : List PEdge} (h : FrI E typ M nx r j seen) {e : PEdge} {x : Int} (hx : r[j]? = some x) (he : e ∈ outsE E typ x) (hn : ¬ (e.to_ ∈ M ∨ e.to_ ∈ nx)) :
    FrI E typ M (nx ++ [e.to_]) r j (seen ++ [e]) := by
  have hin : ∀ y, y ∈ nx → y ∈ nx ++ [e.to_] := fun y hy => List.mem_append_left _ hy
  refine ⟨?_, ?_, fun x hx y hs => (h.gone x hx y hs).imp id (hin y), ?_, ?_⟩
  · rw [← List.append_assoc]
    refine List.nodup_append.2 ⟨h.nodup, by simp, ?_⟩
    intro a ha b hb
    rw [List.mem_singleton] at hb
    subst hb
    rintro rfl
    exact hn (List.mem_append.1 ha)
  · intro y hy
    rcases List.mem_append.1 hy with hy | hy
    · exact h.new y hy
    · rw [List.mem_singleton.1 hy]
      exact ⟨x, List.mem_of_getElem? hx, stepE_outs.2 ⟨e, he, rfl⟩⟩
  · intro e' he'
    rcases List.mem_append.1 he' with he' | he'
    · exact (h.seen e' he').imp id (hin _)
    · rw [List.mem_singleton.1 he']; exact .inr (by simp)
  · intro y hy
    rw [← List.append_assoc] at hy
    rcases List.mem_append.1 hy with hy | hy
    · exact h.ends y hy
    · rw [List.mem_singleton.1 hy]
      exact ⟨e, (List.mem_filter.1 he).1, rfl⟩
theorem FrI.next {M nx r : List Int} {j : Nat} {x : Int} (h : FrI E typ M nx r j (outsE E typ x)) (hx : r[j]? = some x) : FrI E typ M nx r (j + 1) [] := by
  refine ⟨h.nodup, h.new, ?_, by simp, h.ends⟩
  intro z hz y hs
  rw [List.take_add_one, hx] at hz
  rcases List.mem_append.1 hz with hz | hz
  · exact h.gone z hz y hs
  · obtain rfl : z = x := by simpa using hz
    obtain ⟨e, he, rfl⟩ := stepE_outs.1 hs
    exact h.seen e he
theorem FrI.len {M nx r : List Int} {j : Nat} {seen : List PEdge} (h : FrI E typ M nx r j seen) : M.length + nx.length ≤ E.length := by
  have := nodup_le (fun e : PEdge => e.to_) E _ h.nodup h.ends
  simpa using this

structure OutI (E : List PEdge) (typ : ByteArray) (id : Int) (M r : List Int) (k : Nat) : Prop where
  nodup : M.Nodup
  mem : ∀ y, y ∈ M ↔ Rch E typ k id y
  front : ∀ y ∈ r, Rch E typ k id y ∨ y = id
  shut : ∀ y, Rch E typ k id y ∨ y = id → y ∈ r ∨ ∀ z, StepE E typ y z → z ∈ M
theorem OutI.ends {id : Int} {M r : List Int} {k : Nat} (h : OutI E typ id M r k) : ∀ y ∈ M, ∃ e ∈ E, e.to_ = y := fun y hy => ((h.mem y).1 hy).ends
theorem OutI.next {id : Int} {M nx r : List Int} {k : Nat} (h : OutI E typ id M r k) (hf : FrI E typ M nx r r.length []) : OutI E typ id (M ++ nx) nx (k + 1) := by
  have hg : ∀ x ∈ r, ∀ y, StepE E typ x y → y ∈ M ∨ y ∈ nx := by
    have := hf.gone
    rwa [List.take_length] at this
  have hm : ∀ y, y ∈ M ++ nx ↔ Rch E typ (k + 1) id y := by
    intro y
    constructor
    · intro hy
      rcases List.mem_append.1 hy with hy | hy
      · exact ((h.mem y).1 hy).succ
      · obtain ⟨x, hx, hs⟩ := hf.new y hy
        rcases h.front x hx with hr | rfl
        · exact .inr ⟨x, hr, hs⟩
        · exact .inl hs
    · intro hy
      have key : ∀ x, Rch E typ k id x ∨ x = id → StepE E typ x y → y ∈ M ++ nx := by
        intro x hx hs
        rcases h.shut x hx with hr | hr
        · exact List.mem_append.2 (hg x hr y hs)
        · exact List.mem_append_left _ (hr y hs)
      rcases hy with hs | ⟨z, hz, hs⟩
      · exact key id (.inr rfl) hs
      · exact key z (.inl hz) hs
  refine ⟨hf.nodup, hm, fun y hy => .inl ((hm y).1 (List.mem_append_right _ hy)), ?_⟩
  intro y hy
  by_cases hn : y ∈ nx
  · exact .inl hn
  right
  intro z hs
  have hy' : Rch E typ k id y ∨ y = id := by
    rcases hy with hy | hy
    · rcases List.mem_append.1 ((hm y).2 hy) with r | r
      · exact .inl ((h.mem y).1 r)
      · exact absurd r hn
    · exact .inr hy
  rcases h.shut y hy' with hr | hr
  · exact List.mem_append.2 (hg y hr z hs)
  · exact List.mem_append_left _ (hr z hs)
def Wlk (E : List PEdge) (typ : ByteArray) (t : Int) : Nat → Int → Prop
  | 0, x => x = t
  | n + 1, x => ∃ z, StepE E typ x z ∧ Wlk E typ t n z
def Dst (E : List PEdge) (typ : ByteArray) (t : Int) (n : Nat) (x : Int) : Prop := Wlk E typ t n x ∧ ∀ m, m < n → ¬ Wlk E typ t m x
theorem Wlk.dst {t x : Int} {n : Nat} (h : Wlk E typ t n x) : ∃ d, d ≤ n ∧ Dst E typ t d x := by
  induction n using Nat.strongRecOn with
  | ind n ih =>
    by_cases hm : ∃ m, m < n ∧ Wlk E typ t m x
    · obtain ⟨m, hm, hw⟩ := hm
      obtain ⟨d, hd, h⟩ := ih m hm hw
      exact ⟨d, by omega, h⟩
    · exact ⟨n, Nat.le_refl _, h, fun m hlt hw => hm ⟨m, hlt, hw⟩⟩
theorem Dst.zero {t x : Int} : Dst E typ t 0 x ↔ x = t := ⟨fun h => h.1, fun h => ⟨h, fun _ hm => by omega⟩⟩
theorem Dst.step {t x : Int} {n : Nat} (h : Dst E typ t (n + 1) x) : ∃ z, StepE E typ x z ∧ Dst E typ t n z := by
  obtain ⟨⟨z, hs, hw⟩, hn⟩ := h
  refine ⟨z, hs, hw, fun m hm hw' => hn (m + 1) (by omega) ⟨z, hs, hw'⟩⟩
def PathR (E : List PEdge) (typ : ByteArray) (t : Int) : Nat → Int → List Int → Prop
  | 0, _, l => l = []
  | d + 1, x, l => ∃ pre e post l', outsE E typ x = pre ++ e :: post ∧ (∀ e' ∈ pre, ¬ Dst E typ t d e'.to_) ∧ Dst E typ t d e.to_ ∧ l = e.id :: l' ∧ PathR E typ t d e.to_ l'
structure QI (E : List PEdge) (typ : ByteArray) (t : Int) (f : Int → Option Nat) (dn todo : List Int) : Prop where
  nodup : (dn ++ todo).Nodup
  dom : ∀ x, x ∈ dn ++ todo ↔ ∃ d, f x = some d
  zero : f t = some 0
  walk : ∀ x d, f x = some d → Wlk E typ t d x
  cls : ∀ y ∈ dn, ∀ x d, StepE E typ x y → f y = some d → ∃ d', d' ≤ d + 1 ∧ f x = some d'
  mono : todo.Pairwise fun a b => ∀ d d', f a = some d → f b = some d' → d ≤ d'
  top : ∀ y s, todo = y :: s → ∀ x d d', f y = some d → f x = some d' → d' ≤ d + 1
  ends : ∀ x ∈ dn ++ todo, x = t ∨ ∃ e ∈ E, e.from_ = x
structure QP (E : List PEdge) (typ : ByteArray) (t : Int) (f : Int → Option Nat) (dn : List Int) (y : Int) (d : Nat) (todo : List Int) (seen : List PEdge) : Prop where
  nodup : (dn ++ y :: todo).Nodup
  dom : ∀ x, x ∈ dn ++ y :: todo ↔ ∃ d, f x = some d
  zero : f t = some 0
  walk : ∀ x d, f x = some d → Wlk E typ t d x
  cls : ∀ y ∈ dn, ∀ x d, StepE E typ x y → f y = some d → ∃ d', d' ≤ d + 1 ∧ f x = some d'
  mono : (y :: todo).Pairwise fun a b => ∀ d d', f a = some d → f b = some d' → d ≤ d'
  at_ : f y = some d
  top : ∀ x d', f x = some d' → d' ≤ d + 1
  seen : ∀ e ∈ seen, ∃ d', d' ≤ d + 1 ∧ f e.from_ = some d'
  ends : ∀ x ∈ dn ++ y :: todo, x = t ∨ ∃ e ∈ E, e.from_ = x
def nput (f : Int → Option Nat) (k : Int) (v : Nat) : Int → Option Nat := fun x => if x = k then some v else f x
theorem QI.open {t : Int} {f : Int → Option Nat} {dn s : List Int} {y : Int} (h : QI E typ t f dn (y :: s)) : ∃ d, f y = some d ∧ QP E typ t f dn y d s [] := by
  obtain ⟨d, hd⟩ := (h.dom y).1 (by simp)
  exact ⟨d, hd, h.nodup, h.dom, h.zero, h.walk, h.cls, h.mono, hd, fun x d' hx => h.top y s rfl x d d' hd hx, by simp, h.ends⟩
theorem nput_same (f : Int → Option Nat) (k : Int) (v : Nat) : nput f k v k = some v := by simp [nput]
theorem nput_other (f : Int → Option Nat) {k x : Int} (v : Nat) (h : x ≠ k) : nput f k v x = f x := by simp [nput, h]
theorem QP.add {t : Int} {f : Int → Option Nat} {dn s : List Int} {y : Int} {d : Nat} {seen : List PEdge} (h : QP E typ t f dn y d s seen) {e : PEdge} (hin : e ∈ insE E typ y) (he : f e.from_ = none) :
    QP E typ t (nput f e.from_ (d + 1)) dn y d (s ++ [e.from_]) (seen ++ [e]) := by
  obtain ⟨hE, hfit⟩ := List.mem_filter.1 hin
  rw [Bool.and_eq_true, decide_eq_true_eq] at hfit
  have hstep : StepE E typ e.from_ y := ⟨e, hE, hfit.1, rfl, hfit.2⟩
  have hnot : e.from_ ∉ dn ++ y :: s := fun hm => by obtain ⟨q, hq⟩ := (h.dom _).1 hm; rw [he] at hq; cases hq
  have hsame : ∀ {x q}, f x = some q → nput f e.from_ (d + 1) x = some q := fun {x q} hx => by
    rw [nput_other]
    · exact hx
    · rintro rfl; rw [he] at hx; cases hx
  have hback : ∀ {x q}, nput f e.from_ (d + 1) x = some q → (x = e.from_ ∧ q = d + 1) ∨ f x = some q := fun {x q} hx => by
    by_cases hxe : x = e.from_
    · subst hxe
      rw [nput_same] at hx
      exact .inl ⟨rfl, (Option.some.inj hx).symm⟩
    · rw [nput_other _ _ hxe] at hx
      exact .inr hx
  have hl : dn ++ y :: (s ++ [e.from_]) = (dn ++ y :: s) ++ [e.from_] := by simp
  refine ⟨?_, ?_, hsame h.zero, ?_, ?_, ?_, hsame h.at_, ?_, ?_, ?_⟩
  · rw [hl]
    refine List.nodup_append.2 ⟨h.nodup, by simp, ?_⟩
    intro a ha b hb
    rw [List.mem_singleton] at hb
    subst hb
    rintro rfl
    exact hnot ha
  · intro x
    rw [hl, List.mem_append, h.dom, List.mem_singleton]
    constructor
    · rintro (⟨q, hq⟩ | rfl)
      · exact ⟨q, hsame hq⟩
      · exact ⟨_, nput_same _ _ _⟩
    · rintro ⟨q, hq⟩
      rcases hback hq with ⟨r, -⟩ | r
      · exact .inr r
      · exact .inl ⟨q, r⟩
  · intro x q hq
    rcases hback hq with ⟨rfl, rfl⟩ | r
    · exact ⟨y, hstep, h.walk y d h.at_⟩
    · exact h.walk x q r
  · intro z hz x q hs hq
    rcases hback hq with ⟨rfl, rfl⟩ | r
    · exact absurd (List.mem_append_left _ hz) hnot
    · obtain ⟨d', h1, h2⟩ := h.cls z hz x q hs r
      exact ⟨d', h1, hsame h2⟩
  · rw [show y :: (s ++ [e.from_]) = (y :: s) ++ [e.from_] from rfl, List.pairwise_append]
    refine ⟨h.mono.imp_of_mem ?_, by simp, ?_⟩
    · intro a b ha hb hab q q' hq hq'
      rcases hback hq with ⟨rfl, rfl⟩ | r
      · exact absurd (List.mem_append_right _ ha) hnot
      rcases hback hq' with ⟨rfl, rfl⟩ | r'
      · exact absurd (List.mem_append_right _ hb) hnot
      exact hab q q' r r'
    · intro a ha b hb q q' hq hq'
      rw [List.mem_singleton] at hb
      subst hb
      rw [nput_same] at hq'
      cases hq'
      rcases hback hq with ⟨rfl, rfl⟩ | r
      · exact Nat.le_refl _
      · exact h.top a q r
  · intro x q hq
    rcases hback hq with ⟨-, rfl⟩ | r
    · exact Nat.le_refl _
    · exact h.top x q r
  · intro e' he'
    rcases List.mem_append.1 he' with he' | he'
    · obtain ⟨d', h1, h2⟩ := h.seen e' he'
      exact ⟨d', h1, hsame h2⟩
    · rw [List.mem_singleton.1 he']
      exact ⟨d + 1, Nat.le_refl _, nput_same _ _ _⟩
  · intro x hx
    rw [hl] at hx
    rcases List.mem_append.1 hx with hx | hx
    · exact h.ends x hx
    · rw [List.mem_singleton.1 hx]
      exact .inr ⟨e, hE, rfl⟩
theorem QP.next {t : Int} {f : Int → Option Nat} {dn s : List Int} {y : Int} {d : Nat} (h : QP E typ t f dn y d s (insE E typ y)) : QI E typ t f (dn ++ [y]) s := by
  have hl : dn ++ [y] ++ s = dn ++ y :: s := by simp
  refine ⟨by rw [hl]; exact h.nodup, fun x => by rw [hl]; exact h.dom x, h.zero, h.walk, ?_, (List.pairwise_cons.1 h.mono).2, ?_, by rw [hl]; exact h.ends⟩
  · intro z hz x q hs hq
    rcases List.mem_append.1 hz with hz | hz
    · exact h.cls z hz x q hs hq
    · rw [List.mem_singleton.1 hz] at hs hq
      rw [h.at_] at hq
      cases hq
      obtain ⟨e, he, rfl⟩ := stepE_ins.1 hs
      exact h.seen e he
  · rintro z u rfl x q q' hq hq'
    have h1 := (List.pairwise_cons.1 h.mono).1 z (.head _) d q h.at_ hq
    have h2 := h.top x q' hq'
    omega
theorem QI.len {t : Int} {f : Int → Option Nat} {dn todo : List Int} (h : QI E typ t f dn todo) : dn.length + todo.length ≤ E.length + 1 := by
  have := nodup_le (fun o : Option PEdge => match o with | none => t | some e => e.from_) (none :: E.map some) _ h.nodup (fun y hy => by
    rcases h.ends y hy with rfl | ⟨e, he, rfl⟩
    · exact ⟨none, .head _, rfl⟩
    · exact ⟨some e, .tail _ (List.mem_map.2 ⟨e, he, rfl⟩), rfl⟩)
  simpa using this
theorem QP.len {t : Int} {f : Int → Option Nat} {dn todo : List Int} {y : Int} {d : Nat} {seen : List PEdge} (h : QP E typ t f dn y d todo seen) : dn.length + todo.length + 1 ≤ E.length + 1 := by
  have := nodup_le (fun o : Option PEdge => match o with | none => t | some e => e.from_) (none :: E.map some) _ h.nodup (fun y hy => by
    rcases h.ends y hy with rfl | ⟨e, he, rfl⟩
    · exact ⟨none, .head _, rfl⟩
    · exact ⟨some e, .tail _ (List.mem_map.2 ⟨e, he, rfl⟩), rfl⟩)
  simp at this
  omega
end
end Go.Hg

namespace Go.Hg
open Go.RowKit

def OwnS (w : World) (E : TypeId) (sz : Nat) (v : Value) (n : Nat) (xs : List Value) (ob : Option Nat) : Prop :=
  xs.length = n * sz ∧
  ((∃ oa, v = .slice oa 0 0 ∧ n = 0 ∧ ob = none ∧ (∀ a : Addr, oa = some a → a.spot = none)) ∨
   ∃ g cap cur, v = .slice (some ⟨g, 0, none⟩) n cap ∧ ob = some g ∧ w.heap[g]? = some (.cells cur E (0, 0)) ∧ n ≤ cap ∧ cap ≤ maxLen ∧ cur.size = cap * sz ∧ cur.toList.take (n * sz) = xs)

theorem OwnS.nil (w : World) (E : TypeId) (sz : Nat) : OwnS w E sz (.slice none 0 0) 0 [] none := ⟨by simp, .inl ⟨none, rfl, rfl, rfl, by simp⟩⟩
theorem OwnS.lit (w : World) (cs : Array Value) (E : TypeId) (sz n : Nat) (hm : n ≤ maxLen) (hs : cs.size = n * sz) :
    OwnS (w.alloc (.cells cs E)) E sz (.slice (some ⟨w.heap.size, 0, none⟩) n n) n cs.toList (some w.heap.size) :=
  ⟨by simpa using hs, .inr ⟨w.heap.size, n, cs, rfl, rfl, heap_alloc_new w _, Nat.le_refl _, hm, hs, List.take_of_length_le (by rw [Array.length_toList, hs]; exact Nat.le_refl _)⟩⟩
theorem OwnS.lt {w : World} {E : TypeId} {sz : Nat} {v : Value} {n : Nat} {xs : List Value} {ob : Option Nat} (h : OwnS w E sz v n xs ob) : ∀ g, ob = some g → g < w.heap.size := by
  intro g hg
  rcases h.2 with ⟨_, _, _, h, _⟩ | ⟨g', cap, cur, rfl, h, hh, _⟩
  · rw [h] at hg; cases hg
  · rw [h] at hg; cases hg; exact blk_lt hh
theorem OwnS.keep {w w' : World} {E : TypeId} {sz : Nat} {v : Value} {n : Nat} {xs : List Value} {ob : Option Nat} (h : OwnS w E sz v n xs ob)
    (hk : ∀ g, ob = some g → w'.heap[g]? = w.heap[g]?) : OwnS w' E sz v n xs ob := by
  refine ⟨h.1, ?_⟩
  rcases h.2 with h | ⟨g, cap, cur, rfl, ho, hh, r⟩
  · exact .inl h
  · exact .inr ⟨g, cap, cur, rfl, ho, (hk g ho).trans hh, r⟩
theorem OwnS.grow {w w' : World} {E : TypeId} {sz : Nat} {v : Value} {n : Nat} {xs : List Value} {ob : Option Nat} (h : OwnS w E sz v n xs ob) (g : Grow w w') : OwnS w' E sz v n xs ob :=
  h.keep fun k hk => g.heapEq (h.lt k hk)
theorem OwnS.isSlice {w : World} {E : TypeId} {sz : Nat} {v : Value} {n : Nat} {xs : List Value} {ob : Option Nat} (h : OwnS w E sz v n xs ob) : ∃ oa cap, v = .slice oa n cap ∧ n ≤ cap ∧ cap ≤ maxLen := by
  rcases h.2 with ⟨oa, rfl, rfl, _⟩ | ⟨g, cap, cur, rfl, _, _, h1, h2, _⟩
  · exact ⟨oa, 0, rfl, Nat.le_refl _, by simp [maxLen]⟩
  · exact ⟨_, cap, rfl, h1, h2⟩
theorem OwnS.cell {w : World} {E : TypeId} {sz : Nat} {v : Value} {n : Nat} {xs : List Value} {ob : Option Nat} (h : OwnS w E sz v n xs ob) (h0 : 0 < n) :
    ∃ g cap, v = .slice (some ⟨g, 0, none⟩) n cap ∧ ob = some g ∧ g < w.heap.size ∧ (∀ j u, xs[j]? = some u → w.cell? ⟨g, j, none⟩ = some u) ∧ ∀ j, w.frozen? ⟨g, j, none⟩ = false := by
  rcases h.2 with ⟨oa, _, h1, _⟩ | ⟨g, cap, cur, rfl, ho, hh, h1, h2, h3, h4⟩
  · omega
  · refine ⟨g, cap, rfl, ho, blk_lt hh, fun j u hu => ?_, fun j => blk_free hh j⟩
    rw [blk_cell hh, ← Array.getElem?_toList]
    rw [← h4, List.getElem?_take] at hu
    split at hu
    · exact hu
    · cases hu
theorem OwnS.stored {w : World} {E : TypeId} {sz : Nat} {v : Value} {n : Nat} {xs : List Value} {ob : Option Nat} (h : OwnS w E sz v n xs ob) {g : Nat} (hg : ob = some g) (j : Nat) (u : Value) :
    OwnS (w.setCell ⟨g, j, none⟩ u) E sz v n (xs.set j u) ob := by
  refine ⟨by simpa using h.1, ?_⟩
  rcases h.2 with ⟨oa, _, _, h1, _⟩ | ⟨g', cap, cur, rfl, ho, hh, h1, h2, h3, h4⟩
  · rw [h1] at hg; cases hg
  · rw [ho] at hg; cases hg
    exact .inr ⟨g, cap, cur.setIfInBounds j u, rfl, ho, heap_setCell_same w g j cur E u hh, h1, h2, by simpa using h3, by rw [Array.toList_setIfInBounds, ← h4, List.take_set]⟩

def Rd (w : World) (sz : Nat) (x : Value) (m : Nat) (news : List Value) : Prop :=
  news.length = m * sz ∧ ∃ oa cap, x = .slice oa m cap ∧ ((m = 0) ∨ ∃ a, oa = some a ∧ ∀ j u, news[j]? = some u → w.cell? (a.add j) = some u)

theorem Rd.lit (w : World) (cs : Array Value) (E : TypeId) (sz n : Nat) (hs : cs.size = n * sz) : Rd (w.alloc (.cells cs E)) sz (.slice (some ⟨w.heap.size, 0, none⟩) n n) n cs.toList := by
  refine ⟨by simpa using hs, _, _, rfl, .inr ⟨_, rfl, fun j u hu => ?_⟩⟩
  have hadd : (⟨w.heap.size, 0, none⟩ : Addr).add j = ⟨w.heap.size, j, none⟩ := by unfold Addr.add; split <;> simp_all
  rw [hadd, blk_cell (heap_alloc_new w _), ← Array.getElem?_toList]
  exact hu

section
variable {P : Program} (w : World)
theorem run_append_S (t ty e : TypeId) (i : TypeInfo) (z : Value) (size bytes : Nat) (ht : P.underlying t = some (.slice e)) (hi : P.info? e = some i) (hz : i.zero = some z)
    (hsize : i.size = size) (hby : i.bytes = bytes) (hzs : z.cells.size = size) (hsz : 0 < size)
    (v : Value) (n : Nat) (xs : List Value) (ob : Option Nat) (hown : OwnS w e size v n xs ob)
    (x : Value) (m : Nat) (news : List Value) (hx : Rd w size x m news) (h1 : ∀ u ∈ news, u.oneCell' = true)
    (h63 : n + m ≤ maxLen) (hbytes : (n + m) * bytes ≤ 140737488355328) :
    ∃ v' w' ob', (Builtin.append_ #[t, t] ty #[v, x]).run P w = .ok v' w' ∧ OwnS w' e size v' (n + m) (xs ++ news) ob' ∧ Mod (fun k => ob = some k) w w' ∧
      (ob' = ob ∨ ∃ g, ob' = some g ∧ w.heap.size ≤ g) ∧ (m = 0 → v' = v) := by
  subst hsize
  subst hby
  obtain ⟨hl, oa, c, rfl, hsrc⟩ := hx
  have hsmall : n + m ≤ 9223372036854775807 := by simp only [maxLen] at h63; omega
  have hlen : (xs ++ news).length = (n + m) * i.size := by rw [List.length_append, hown.1, hl, Nat.add_mul]
  rcases hsrc with rfl | ⟨a, rfl, hnews⟩
  · have hn : news = [] := List.eq_nil_of_length_eq_zero (by simpa using hl)
    subst hn
    obtain ⟨oa', cap, rfl, hc, _⟩ := hown.isSlice
    refine ⟨_, w, ob, ?_, by simpa using hown, Mod.rfl' _ _, .inl rfl, fun _ => rfl⟩
    cases oa <;> cases oa' <;>
      simp [Builtin.append_, run_underlying ht, sizeOf, typeInfo, hi, Builtin.lenOf, hc, Builtin.firstCells, loadCells, loadCellsFrom, storeCells]
  · by_cases hm : m = 0
    · subst hm
      have hn : news = [] := List.eq_nil_of_length_eq_zero (by simpa using hl)
      subst hn
      obtain ⟨oa', cap, rfl, hc, _⟩ := hown.isSlice
      refine ⟨_, w, ob, ?_, by simpa using hown, Mod.rfl' _ _, .inl rfl, fun _ => rfl⟩
      cases oa' <;>
        simp [Builtin.append_, run_underlying ht, sizeOf, typeInfo, hi, Builtin.lenOf, hc, Builtin.firstCells, loadCells, loadCellsFrom, storeCells]
    · have grown : ∀ (old : Nat), old < n + m →
          OwnS (w.drew.alloc (.cells (xs.toArray ++ news.toArray ++ Builtin.zeroCells z.cells (grownCap w (n + m) old e - (n + m))) e)) e i.size
            (.slice (some ⟨w.heap.size, 0, none⟩) (n + m) (grownCap w (n + m) old e)) (n + m) (xs ++ news) (some w.heap.size) := by
        intro old ho
        have hge := grownCap_ge w (n + m) old e
        have hcm : grownCap w (n + m) old e ≤ maxLen := grownCap_le_maxLen w (n + m) old e h63
        refine ⟨hlen, .inr ⟨w.heap.size, _, _, rfl, rfl, heap_alloc_new w.drew _, hge, hcm, ?_, ?_⟩⟩
        · simp only [Array.size_append, List.size_toArray, size_zeroCells, hzs, hown.1, hl, ← Nat.add_mul]
          congr 1
          omega
        · simp only [Array.toList_append, List.append_assoc]
          rw [← List.append_assoc, ← hlen]
          exact List.take_left
      have hmod : ∀ o, Mod (fun k => ob = some k) w (w.drew.alloc o) := fun o => ((Mod.rfl' _ w).drewd).allocd o
      rcases hown.2 with ⟨oa', rfl, rfl, rfl, hsp⟩ | ⟨g, cap, cur, rfl, rfl, hg, hnc, hcm, hcs, htake⟩
      · have hx : xs = [] := List.eq_nil_of_length_eq_zero (by simpa using hown.1)
        subst hx
        have hgr := grown 0 (by omega)
        cases oa' with
        | none =>
          have hr := run_append_nil (P := P) w t ty e i z ht hi hz a m c news hl hnews (by omega) (by omega) (by have hb := hbytes; simp only [Nat.zero_add] at hb; omega)
          simp only [Nat.zero_add, List.nil_append, Array.empty_append] at hgr ⊢
          exact ⟨_, _, _, hr, hgr, hmod _, .inr ⟨_, rfl, Nat.le_refl _⟩, fun h => absurd h hm⟩
        | some b =>
          have hr := run_append_grow (P := P) w t ty e i z ht hi hz b 0 0 [] (by simp) (by simp) a m c news hl hnews (by omega) (by omega) (growslice_fits (by omega) hbytes)
          exact ⟨_, _, _, hr, hgr, hmod _, .inr ⟨_, rfl, Nat.le_refl _⟩, fun h => absurd h hm⟩
      · by_cases hroom : n + m ≤ cap
        · have hfit : n * i.size + news.length ≤ cur.size := by rw [hl, hcs, ← Nat.add_mul]; exact Nat.mul_le_mul_right _ hroom
          have hr := run_append_room (P := P) w t ty e i ht hi g n cap cur hg a m c news hl hnews h1 hroom hfit
          refine ⟨_, _, some g, hr, ⟨hlen, .inr ⟨g, cap, _, rfl, rfl, setRow_heap w g cur _ e _ hg, hroom, hcm, ?_, ?_⟩⟩, ⟨rfl, rfl, rfl, by simp, fun k _ hk => setRow_other w g k _ (fun e => hk (by simp [e]))⟩, .inl rfl, fun h => absurd h hm⟩
          · simp only [List.size_toArray, List.length_append, List.length_take, List.length_drop, Array.length_toList]
            omega
          · rw [htake, ← hlen]
            exact List.take_left
        · have holds : ∀ j u, xs[j]? = some u → w.cell? ((⟨g, 0, none⟩ : Addr).add j) = some u := by
            intro j u hu
            have hadd : (⟨g, 0, none⟩ : Addr).add j = ⟨g, j, none⟩ := by unfold Addr.add; split <;> simp_all
            rw [hadd, blk_cell hg, ← Array.getElem?_toList]
            rw [← htake, List.getElem?_take] at hu
            split at hu
            · exact hu
            · cases hu
          have hr := run_append_grow (P := P) w t ty e i z ht hi hz ⟨g, 0, none⟩ n cap xs hown.1 holds a m c news hl hnews (by omega) (by omega) (growslice_fits (by omega) hbytes)
          exact ⟨_, _, _, hr, grown cap (by omega), hmod _, .inr ⟨_, rfl, Nat.le_refl _⟩, fun h => absurd h hm⟩

theorem wp_append_S {o : Oper} {a : Act} {K : Act → World → Prop} {Q : Exit → Act → World → Prop} (s x : Operand) (t : TypeId)
    (ho : o.op = .call { callee := .builtin .append, args := #[s, x], argTypes := #[t, t] })
    (e : TypeId) (i : TypeInfo) (z : Value) (size bytes : Nat) (ht : P.underlying t = some (.slice e)) (hi : P.info? e = some i) (hz : i.zero = some z)
    (hsize : i.size = size) (hby : i.bytes = bytes) (hzs : z.cells.size = size) (hsz : 0 < size)
    (v : Value) (n : Nat) (xs : List Value) (ob : Option Nat) (hs : a.eval s = v) (hown : OwnS w e size v n xs ob)
    (xv : Value) (hxv : a.eval x = xv) (m : Nat) (news : List Value) (hx : Rd w size xv m news) (h1 : ∀ u ∈ news, u.oneCell' = true)
    (h63 : n + m ≤ maxLen) (hbytes : (n + m) * bytes ≤ 140737488355328)
    (h : ∀ v' w' ob', OwnS w' e size v' (n + m) (xs ++ news) ob' → Mod (fun k => ob = some k) w w' → (ob' = ob ∨ ∃ g, ob' = some g ∧ w.heap.size ≤ g) → (m = 0 → v' = v) → K (a.put o.dst v') w') : o.wp P a w K Q := by
  obtain ⟨v', w', ob', hr, h2, h3, h4, h5⟩ := run_append_S (P := P) w t o.type e i z size bytes ht hi hz hsize hby hzs hsz v n xs ob hown xv m news hx h1 h63 hbytes
  unfold Oper.wp execOp
  simp only [ho, resolve, invoke, builtin, Sem.run_bind, Sem.run_pure, Result.andThen_ok, List.map_toArray, List.map_cons, List.map_nil, hs, hxv, hr]
  exact h v' w' ob' h2 h3 h4 h5

theorem wpList_append_S {ops : Array Oper} {rest : List Oper} {o : Oper} {a : Act} {Q : Exit → Act → World → Prop} (hgd : o.guard = none) (s x : Operand) (t : TypeId)
    (ho : o.op = .call { callee := .builtin .append, args := #[s, x], argTypes := #[t, t] })
    (e : TypeId) (i : TypeInfo) (z : Value) (size bytes : Nat) (ht : P.underlying t = some (.slice e)) (hi : P.info? e = some i) (hz : i.zero = some z)
    (hsize : i.size = size) (hby : i.bytes = bytes) (hzs : z.cells.size = size) (hsz : 0 < size)
    (v : Value) (n : Nat) (xs : List Value) (ob : Option Nat) (hs : a.eval s = v) (hown : OwnS w e size v n xs ob)
    (xv : Value) (hxv : a.eval x = xv) (m : Nat) (news : List Value) (hx : Rd w size xv m news) (h1 : ∀ u ∈ news, u.oneCell' = true)
    (h63 : n + m ≤ maxLen) (hbytes : (n + m) * bytes ≤ 140737488355328)
    (h : ∀ v' w' ob', OwnS w' e size v' (n + m) (xs ++ news) ob' → Mod (fun k => ob = some k) w w' → (ob' = ob ∨ ∃ g, ob' = some g ∧ w.heap.size ≤ g) → (m = 0 → v' = v) → wpList P ops Q rest (a.put o.dst v') w') : wpList P ops Q (o :: rest) a w :=
  wpList_plain hgd fun _ hK => wp_append_S w s x t ho e i z size bytes ht hi hz hsize hby hzs hsz v n xs ob hs hown xv hxv m news hx h1 h63 hbytes fun v' w' ob' h2 h3 h4 h5 => hK _ _ (h v' w' ob' h2 h3 h4 h5)
end
end Go.Hg

namespace Go.Hg
open Go.RowKit

theorem flatten_at {α : Type} : ∀ (rows : List (List α)) (sz k j : Nat) (r : List α) (c : α), (∀ r ∈ rows, r.length = sz) → rows[k]? = some r → r[j]? = some c → rows.flatten[k * sz + j]? = some c
  | [], sz, k, j, r, c, _, h, _ => by simp at h
  | r0 :: rows, sz, 0, j, r, c, h0, h, hj => by
    simp at h; subst h
    have hlt : j < r0.length := (List.getElem?_eq_some_iff.1 hj).1
    simp [List.getElem?_append_left hlt, hj]
  | r0 :: rows, sz, k + 1, j, r, c, h0, h, hj => by
    have h1 : r0.length = sz := h0 r0 (by simp)
    have ih := flatten_at rows sz k j r c (fun r hr => h0 r (by simp [hr])) (by simpa using h) hj
    rw [List.flatten_cons, List.getElem?_append_right (by rw [h1, Nat.succ_mul]; omega)]
    rw [show (k + 1) * sz + j - r0.length = k * sz + j by rw [h1, Nat.succ_mul]; omega]
    exact ih

def OwnL {α : Type} (w : World) (E : TypeId) (sz : Nat) (R : α → List Value → Prop) (v : Value) (l : List α) (ob : Option Nat) : Prop :=
  ∃ rows : List (List Value), rows.length = l.length ∧ (∀ (k : Nat) x r, l[k]? = some x → rows[k]? = some r → R x r ∧ r.length = sz) ∧ OwnS w E sz v l.length rows.flatten ob

section
variable {α : Type} {w w' : World} {E : TypeId} {sz : Nat} {R R' : α → List Value → Prop} {v v' : Value} {l : List α} {ob ob' : Option Nat}
theorem OwnL.nil (w : World) (E : TypeId) (sz : Nat) (R : α → List Value → Prop) : OwnL w E sz R (.slice none 0 0) [] none := ⟨[], rfl, by simp, OwnS.nil w E sz⟩
theorem OwnL.rowLen (h : OwnL w E sz R v l ob) : ∃ rows : List (List Value), rows.length = l.length ∧ (∀ r ∈ rows, r.length = sz) ∧ (∀ (k : Nat) x r, l[k]? = some x → rows[k]? = some r → R x r ∧ r.length = sz) ∧ OwnS w E sz v l.length rows.flatten ob := by
  obtain ⟨rows, h1, h2, h3⟩ := h
  refine ⟨rows, h1, fun r hr => ?_, h2, h3⟩
  obtain ⟨k, hk, rfl⟩ := List.mem_iff_getElem.1 hr
  exact (h2 k l[k] _ (List.getElem?_eq_getElem (by omega)) (List.getElem?_eq_getElem hk)).2
theorem OwnL.keep (h : OwnL w E sz R v l ob) (hk : ∀ g, ob = some g → w'.heap[g]? = w.heap[g]?) (hR : ∀ x r, x ∈ l → R x r → R' x r) : OwnL w' E sz R' v l ob := by
  obtain ⟨rows, h1, h2, h3⟩ := h
  exact ⟨rows, h1, fun k x r a b => ⟨hR x r (List.mem_of_getElem? a) (h2 k x r a b).1, (h2 k x r a b).2⟩, h3.keep hk⟩
theorem OwnL.toSl (h : OwnL w E sz R v l ob) {S : Nat → Prop} (hS : ∀ g, ob = some g → S g) : SlR S w sz R v l := by
  obtain ⟨rows, h1, hlen, h2, h3⟩ := h.rowLen
  obtain ⟨oa, cap, rfl, hc, hm⟩ := h3.isSlice
  refine ⟨oa, cap, rows, rfl, hc, hm, h1, fun k x r a b => (h2 k x r a b).1, fun h0 => ?_⟩
  obtain ⟨g, cap', hv, ho, hlt, hcell, _⟩ := h3.cell h0
  simp only [Value.slice.injEq] at hv
  refine ⟨g, 0, hv.1, hS g ho, hlt, fun k r j c hr hj => ?_⟩
  rw [Nat.zero_add]
  exact hcell _ _ (flatten_at rows sz k j r c hlen hr hj)
end

def NodesO (F : Nat → Prop) (w : World) (v : Value) (l : List PNode) : Prop :=
  ∃ (S : Nat → Prop) (ob : Option Nat), (∀ b, S b → F b ∧ b < w.heap.size) ∧ (∀ g, ob = some g → F g ∧ ¬ S g) ∧ OwnL w 89 3 (RNode S w) v l ob
def EdgesO (F : Nat → Prop) (w : World) (v : Value) (l : List PEdge) : Prop :=
  ∃ (S : Nat → Prop) (ob : Option Nat), (∀ b, S b → F b ∧ b < w.heap.size) ∧ (∀ g, ob = some g → F g ∧ ¬ S g) ∧ OwnL w 91 5 (REdge S w) v l ob

theorem PropsR.mod {F S : Nat → Prop} {w w' : World} {v : Value} {ps : List PProp} (h : PropsR S w v ps) (g : Mod F w w') (hd : ∀ b, S b → ¬ F b) : PropsR S w' v ps :=
  SlR.keep h (fun b hS hb => g.block b hb (hd b hS)) g.size (fun _ _ _ hR => hR)
theorem PropsR.sub {S S' : Nat → Prop} {w : World} {v : Value} {ps : List PProp} (h : PropsR S w v ps) (hS : ∀ b, S b → S' b) : PropsR S' w v ps :=
  SlR.sub h hS (fun _ _ _ hR => hR)
theorem PropsR.cut {S : Nat → Prop} {w : World} {v : Value} {ps : List PProp} (h : PropsR S w v ps) : PropsR (fun b => S b ∧ b < w.heap.size) w v ps := by
  obtain ⟨a, cap, rows, hv, hl, hc, hr, hR1, h⟩ := h
  refine ⟨a, cap, rows, hv, hl, hc, hr, hR1, fun h0 => ?_⟩
  obtain ⟨b, off, ha, hS, hb, hcell⟩ := h h0
  exact ⟨b, off, ha, ⟨hS, hb⟩, hb, hcell⟩
theorem RNode.mod {F S : Nat → Prop} {w w' : World} {x : PNode} {r : List Value} (h : RNode S w x r) (g : Mod F w w') (hd : ∀ b, S b → ¬ F b) : RNode S w' x r :=
  let ⟨pv, hr, hp⟩ := h
  ⟨pv, hr, hp.mod g hd⟩
theorem REdge.mod {F S : Nat → Prop} {w w' : World} {x : PEdge} {r : List Value} (h : REdge S w x r) (g : Mod F w w') (hd : ∀ b, S b → ¬ F b) : REdge S w' x r :=
  let ⟨pv, hr, hp⟩ := h
  ⟨pv, hr, hp.mod g hd⟩
theorem RNode.sub {S S' : Nat → Prop} {w : World} {x : PNode} {r : List Value} (h : RNode S w x r) (hS : ∀ b, S b → S' b) : RNode S' w x r :=
  let ⟨pv, hr, hp⟩ := h
  ⟨pv, hr, hp.sub hS⟩
theorem REdge.sub {S S' : Nat → Prop} {w : World} {x : PEdge} {r : List Value} (h : REdge S w x r) (hS : ∀ b, S b → S' b) : REdge S' w x r :=
  let ⟨pv, hr, hp⟩ := h
  ⟨pv, hr, hp.sub hS⟩
theorem NodesO.nil (F : Nat → Prop) (w : World) : NodesO F w (.slice none 0 0) [] := ⟨fun _ => False, none, by simp, by simp, OwnL.nil _ _ _ _⟩
theorem EdgesO.nil (F : Nat → Prop) (w : World) : EdgesO F w (.slice none 0 0) [] := ⟨fun _ => False, none, by simp, by simp, OwnL.nil _ _ _ _⟩
theorem NodesO.grow {F : Nat → Prop} {w w' : World} {v : Value} {l : List PNode} (h : NodesO F w v l) (g : Grow w w') : NodesO F w' v l := by
  obtain ⟨S, ob, h1, h2, h3⟩ := h
  refine ⟨S, ob, fun b hb => ⟨(h1 b hb).1, Nat.lt_of_lt_of_le (h1 b hb).2 g.size⟩, h2, h3.keep (fun k hk => ?_) (fun x r _ hR => hR.mod (Mod.of_grow (F := fun _ => False) g) (fun _ _ => id))⟩
  obtain ⟨rows, _, _, h4⟩ := h3
  exact g.heapEq (h4.lt k hk)
theorem EdgesO.grow {F : Nat → Prop} {w w' : World} {v : Value} {l : List PEdge} (h : EdgesO F w v l) (g : Grow w w') : EdgesO F w' v l := by
  obtain ⟨S, ob, h1, h2, h3⟩ := h
  refine ⟨S, ob, fun b hb => ⟨(h1 b hb).1, Nat.lt_of_lt_of_le (h1 b hb).2 g.size⟩, h2, h3.keep (fun k hk => ?_) (fun x r _ hR => hR.mod (Mod.of_grow (F := fun _ => False) g) (fun _ _ => id))⟩
  obtain ⟨rows, _, _, h4⟩ := h3
  exact g.heapEq (h4.lt k hk)
theorem PropsR.rd {S : Nat → Prop} {w : World} {v : Value} {ps : List PProp} (h : PropsR S w v ps) : Rd w 4 v ps.length (ps.map PProp.cells).flatten := by
  obtain ⟨a, cap, rows, hv, hl, hc, hr, hR1, h⟩ := h
  have hrows : rows = ps.map PProp.cells := by
    apply List.ext_getElem (by simp [hr])
    intro k h1 h2
    rw [List.getElem_map]
    exact hR1 k _ _ (List.getElem?_eq_getElem (by omega)) (List.getElem?_eq_getElem h1)
  have hfl : (ps.map PProp.cells).flatten.length = ps.length * 4 := by
    simp [List.length_flatten, Function.comp_def, List.map_const', List.sum_replicate_nat]
  refine ⟨hfl, a, cap, hv, ?_⟩
  by_cases h0 : ps.length = 0
  · exact .inl h0
  · obtain ⟨b, off, ha, hS, hb, hcell⟩ := h (by omega)
    refine .inr ⟨_, ha, fun j u hu => ?_⟩
    have hj : j < ps.length * 4 := by rw [← hfl]; exact (List.getElem?_eq_some_iff.1 hu).1
    have hk : j / 4 < ps.length := by omega
    have hrow : rows[j / 4]? = some (ps[j / 4]).cells := by rw [hrows]; simp [List.getElem?_map, List.getElem?_eq_getElem hk]
    have hrl : (ps[j / 4]).cells.length = 4 := rfl
    have hc1 : (ps[j / 4]).cells[j % 4]? = some ((ps[j / 4]).cells[j % 4]'(by rw [hrl]; omega)) := List.getElem?_eq_getElem _
    have hf := flatten_at (ps.map PProp.cells) 4 (j / 4) (j % 4) _ _ (by simp) (by rw [← hrows]; exact hrow) hc1
    have e : j / 4 * 4 + j % 4 = j := by omega
    rw [e, hu] at hf
    have hcc := hcell _ _ (j % 4) _ hrow hc1
    rw [Nat.add_assoc, e] at hcc
    rw [hf]
    unfold Addr.add
    split
    · rename_i hz; subst hz; simpa using hcc
    · exact hcc
theorem Rd.grow {w w' : World} {sz m : Nat} {x : Value} {news : List Value} (h : Rd w sz x m news) (g : Grow w w') : Rd w' sz x m news := by
  obtain ⟨h1, oa, cap, hx, h2⟩ := h
  refine ⟨h1, oa, cap, hx, h2.imp id (fun ⟨a, ha, hc⟩ => ⟨a, ha, fun j u hu => ?_⟩)⟩
  have h3 := hc j u hu
  rw [← h3]
  exact g.cell (World.block_lt_of_cell? w _ h3)
theorem OwnS.props {w : World} {v : Value} {ps : List PProp} {ob : Option Nat} (h : OwnS w 105 4 v ps.length (ps.map PProp.cells).flatten ob) : PropsR (fun b => ob = some b) w v ps := by
  have h2 : OwnL w 105 4 RProp v ps ob := ⟨ps.map PProp.cells, by simp, fun k x r hx hr => by
    rw [List.getElem?_map, hx] at hr
    simp only [Option.map_some, Option.some.injEq] at hr
    subst hr
    exact ⟨rfl, rfl⟩, h⟩
  exact h2.toSl (fun g hg => hg)

theorem NodesO.open {F : Nat → Prop} {w w' : World} {v : Value} {l : List PNode} (h : NodesO F w v l) (g : Grow w w') :
    ∃ (S : Nat → Prop) (ob : Option Nat) (rows : List (List Value)), (∀ b, S b → F b ∧ b < w.heap.size) ∧ (∀ x, ob = some x → F x ∧ ¬ S x ∧ x < w.heap.size) ∧ rows.length = l.length ∧
      (∀ (k : Nat) x r, l[k]? = some x → rows[k]? = some r → RNode S w' x r ∧ r.length = 3) ∧ OwnS w' 89 3 v l.length rows.flatten ob := by
  obtain ⟨S, ob, h1, h2, rows, h3, h4, h5⟩ := h
  exact ⟨S, ob, rows, h1, fun x hx => ⟨(h2 x hx).1, (h2 x hx).2, h5.lt x hx⟩, h3, fun k x r a b => ⟨(h4 k x r a b).1.mod (Mod.of_grow (F := fun _ => False) g) (fun _ _ => id), (h4 k x r a b).2⟩, h5.grow g⟩
theorem EdgesO.open {F : Nat → Prop} {w w' : World} {v : Value} {l : List PEdge} (h : EdgesO F w v l) (g : Grow w w') :
    ∃ (S : Nat → Prop) (ob : Option Nat) (rows : List (List Value)), (∀ b, S b → F b ∧ b < w.heap.size) ∧ (∀ x, ob = some x → F x ∧ ¬ S x ∧ x < w.heap.size) ∧ rows.length = l.length ∧
      (∀ (k : Nat) x r, l[k]? = some x → rows[k]? = some r → REdge S w' x r ∧ r.length = 5) ∧ OwnS w' 91 5 v l.length rows.flatten ob := by
  obtain ⟨S, ob, h1, h2, rows, h3, h4, h5⟩ := h
  exact ⟨S, ob, rows, h1, fun x hx => ⟨(h2 x hx).1, (h2 x hx).2, h5.lt x hx⟩, h3, fun k x r a b => ⟨(h4 k x r a b).1.mod (Mod.of_grow (F := fun _ => False) g) (fun _ _ => id), (h4 k x r a b).2⟩, h5.grow g⟩

end Go.Hg

namespace Go.Hg
open Go.RowKit Go.Proofs

theorem infoProp : (Tryz.prog.info? 105).map (fun i => (i.zero, i.size, i.bytes)) = some (some (.agg #[.string ByteArray.empty, .int .i64 0, .int .i64 0, .string ByteArray.empty]), 4, 48) := by kernel_rfl
theorem infoNode : (Tryz.prog.info? 89).map (fun i => (i.zero, i.size, i.bytes)) = some (some (.agg #[.int .i64 0, .string ByteArray.empty, .slice none 0 0]), 3, 48) := by kernel_rfl
theorem infoEdge : (Tryz.prog.info? 91).map (fun i => (i.zero, i.size, i.bytes)) = some (some (.agg #[.int .i64 0, .string ByteArray.empty, .int .i64 0, .int .i64 0, .slice none 0 0]), 5, 64) := by kernel_rfl

end Go.Hg

namespace Go.Hg
open Go.RowKit Go.Proofs

theorem flatten_len {α : Type} : ∀ (rows : List (List α)) (sz : Nat), (∀ r ∈ rows, r.length = sz) → rows.flatten.length = rows.length * sz
  | [], sz, _ => by simp
  | r :: rows, sz, h => by
    rw [List.flatten_cons, List.length_append, flatten_len rows sz (fun r hr => h r (by simp [hr])), h r (by simp), List.length_cons, Nat.succ_mul]; omega
theorem SlR.rd {α : Type} {S : Nat → Prop} {w : World} {sz : Nat} {R : α → List Value → Prop} {v : Value} {l : List α} (h : SlR S w sz R v l) (hsz : 0 < sz) (hR : ∀ x r, R x r → r.length = sz) :
    ∃ rows : List (List Value), rows.length = l.length ∧ (∀ (k : Nat) x r, l[k]? = some x → rows[k]? = some r → R x r ∧ r.length = sz) ∧ Rd w sz v l.length rows.flatten := by
  obtain ⟨a, cap, rows, hv, hl, hc, hr, hR1, h⟩ := h
  have hlen : ∀ r ∈ rows, r.length = sz := fun r hr' => by
    obtain ⟨k, hk, rfl⟩ := List.mem_iff_getElem.1 hr'
    exact hR _ _ (hR1 k l[k] _ (List.getElem?_eq_getElem (by omega)) (List.getElem?_eq_getElem hk))
  have hfl : rows.flatten.length = l.length * sz := by rw [flatten_len rows sz hlen, hr]
  refine ⟨rows, hr, fun k x r a b => ⟨hR1 k x r a b, hlen r (List.mem_of_getElem? b)⟩, hfl, a, cap, hv, ?_⟩
  by_cases h0 : l.length = 0
  · exact .inl h0
  · obtain ⟨b, off, ha, hS, hb, hcell⟩ := h (by omega)
    refine .inr ⟨_, ha, fun j u hu => ?_⟩
    have hj : j < l.length * sz := by rw [← hfl]; exact (List.getElem?_eq_some_iff.1 hu).1
    have hk : j / sz < rows.length := by rw [hr]; exact (Nat.div_lt_iff_lt_mul hsz).2 hj
    have hrow : rows[j / sz]? = some rows[j / sz] := List.getElem?_eq_getElem hk
    have hrl : rows[j / sz].length = sz := hlen _ (List.getElem_mem hk)
    have hm : j % sz < sz := Nat.mod_lt _ hsz
    have hc1 : rows[j / sz][j % sz]? = some (rows[j / sz][j % sz]'(by rw [hrl]; exact hm)) := List.getElem?_eq_getElem _
    have hf := flatten_at rows sz (j / sz) (j % sz) _ _ hlen hrow hc1
    have e : j / sz * sz + j % sz = j := by rw [Nat.mul_comm]; exact Nat.div_add_mod j sz
    rw [e, hu] at hf
    have hcc := hcell _ _ (j % sz) _ hrow hc1
    rw [Nat.add_assoc, e] at hcc
    rw [hf]
    unfold Addr.add
    split
    · rename_i hz; subst hz; simpa using hcc
    · exact hcc
theorem one_flat {α : Type} {R : α → List Value → Prop} {l : List α} {rows : List (List Value)} {sz : Nat} (hl : rows.length = l.length) (h : ∀ (k : Nat) x r, l[k]? = some x → rows[k]? = some r → R x r ∧ r.length = sz)
    (h1 : ∀ x r, R x r → ∀ u ∈ r, u.oneCell' = true) : ∀ u ∈ rows.flatten, u.oneCell' = true := by
  intro u hu
  obtain ⟨r, hr, hur⟩ := List.mem_flatten.1 hu
  obtain ⟨k, hk, rfl⟩ := List.mem_iff_getElem.1 hr
  exact h1 _ _ (h k l[k] _ (List.getElem?_eq_getElem (by omega)) (List.getElem?_eq_getElem hk)).1 u hur
theorem RNode.one {S : Nat → Prop} {w : World} {x : PNode} {r : List Value} (h : RNode S w x r) : ∀ u ∈ r, u.oneCell' = true := by
  obtain ⟨pv, rfl, hp⟩ := h
  obtain ⟨_, _, rfl⟩ := hp.isSlice
  intro u hu; simp only [List.mem_cons, List.not_mem_nil, or_false] at hu; rcases hu with rfl | rfl | rfl <;> rfl
theorem REdge.one {S : Nat → Prop} {w : World} {x : PEdge} {r : List Value} (h : REdge S w x r) : ∀ u ∈ r, u.oneCell' = true := by
  obtain ⟨pv, rfl, hp⟩ := h
  obtain ⟨_, _, rfl⟩ := hp.isSlice
  intro u hu; simp only [List.mem_cons, List.not_mem_nil, or_false] at hu; rcases hu with rfl | rfl | rfl | rfl | rfl <;> rfl
theorem RProp.one {x : PProp} {r : List Value} (h : RProp x r) : ∀ u ∈ r, u.oneCell' = true := by
  unfold RProp at h; subst h
  intro u hu; simp only [PProp.cells, List.mem_cons, List.not_mem_nil, or_false] at hu; rcases hu with rfl | rfl | rfl | rfl <;> rfl

set_option maxRecDepth 100000 in
set_option maxHeartbeats 1000000 in
theorem cloneProp (S : Nat → Prop) (v : Value) (l : List PProp) (w : World) (hl : SlR S w 4 (RProp) v l) (hb : l.length ≤ 1099511627776) :
    Calls Tryz.prog 56 #[v] w fun e w' => ∃ v' ob, e = .returned v' ∧ OwnL w' 105 4 (RProp) v' l ob ∧ Grow w w' ∧ (∀ b, ob = some b → w.heap.size ≤ b) := by
  have hnl := fun (w : World) a n c => Lib.run_eql_slice_nil (P := Tryz.prog) w 87 105 a n c 0 0 Tryz.underlying87
  obtain ⟨i0, hi, hz0, hz1, hz2⟩ := info_parts infoProp
  obtain ⟨rows, h1, h2, h3⟩ := SlR.rd hl (by decide) (fun x r h => by unfold RProp at h; rw [h]; rfl)
  have hone := one_flat h1 h2 (fun x r h => h.one)
  obtain ⟨oa, cap, rfl, hle, hcm, hA⟩ := SlR.open hl
  cases oa with
  | none =>
    have h0 : l = [] := by
      cases l with
      | nil => rfl
      | cons x t => obtain ⟨_, _, _, h, _⟩ := hA 0 x rfl; cases h
    subst h0
    clear hA hl h1 h2 h3 hone hb hle hcm
    go_enter Tryz.func56, Tryz.ntmps56
    go_wp2
    go_ret
    exact ⟨_, none, rfl, OwnL.nil _ _ _ _, Grow.rfl' w, by simp⟩
  | some a =>
    have hO := OwnS.lit w #[] 105 4 0 (by simp [maxLen]) rfl
    have hg : Grow w (w.alloc (.cells #[] 105)) := (Grow.rfl' w).allocd _
    have HO := Lib.hid hO; have HG := Lib.hid hg; have H1 := Lib.hid h1; have H2 := Lib.hid h2; have H3 := Lib.hid h3; have HN := Lib.hid hone; have HB := Lib.hid hb
    clear hO hg h1 h2 h3 hone hb hA hl hle hcm
    go_enter Tryz.func56, Tryz.ntmps56
    go_wp2_with (at_builtin; go_must (refine wpList_append_S _ rfl (.tmp 5) (.tmp 6) 87 rfl 105 i0 _ 4 48 Tryz.underlying87 hi hz0 hz1 hz2 rfl (by decide) (.slice (some ⟨w.heap.size, 0, none⟩) 0 0) 0 [] (some w.heap.size) rfl HO.out (.slice (some a) l.length cap) rfl l.length rows.flatten (H3.out.grow HG.out) HN.out (by have := HB.out; unfold maxLen; omega) (by have := HB.out; omega) ?_))
    intro v' w2 ob' hown hmod hob _
    have hg2 : Grow w w2 := HG.out.modd hmod (fun b hb => by first | (simp only [Option.some.injEq] at hb; omega) | omega)
    have hfin : OwnL w2 105 4 (RProp) v' l ob' := ⟨rows, H1.out, fun k x r ha hb => ⟨(H2.out k x r ha hb).1, (H2.out k x r ha hb).2⟩, by simpa using hown⟩
    have hnew : ∀ b, ob' = some b → w.heap.size ≤ b := fun b hb => by
      rcases hob with h | ⟨g, h, hge⟩
      · rw [h] at hb; cases hb; exact Nat.le_refl _
      · rw [h] at hb; cases hb; first | omega | (simp at hge; omega)
    have HF := Lib.hid hfin; have HG2 := Lib.hid hg2; have HNEW := Lib.hid hnew
    clear hown hmod hob hg2 hfin hnew
    go_wp2_with fail
    go_ret
    exact ⟨_, ob', rfl, HF.out, HG2.out, HNEW.out⟩

set_option maxRecDepth 100000 in
set_option maxHeartbeats 1000000 in
theorem cloneNode (S : Nat → Prop) (v : Value) (l : List PNode) (w : World) (hl : SlR S w 3 (RNode S w) v l) (hb : l.length ≤ 1099511627776) :
    Calls Tryz.prog 55 #[v] w fun e w' => ∃ v' ob, e = .returned v' ∧ OwnL w' 89 3 (RNode S w') v' l ob ∧ Grow w w' ∧ (∀ b, ob = some b → w.heap.size ≤ b) := by
  have hnl := fun (w : World) a n c => Lib.run_eql_slice_nil (P := Tryz.prog) w 59 89 a n c 0 0 Tryz.underlying59
  obtain ⟨i0, hi, hz0, hz1, hz2⟩ := info_parts infoNode
  obtain ⟨rows, h1, h2, h3⟩ := SlR.rd hl (by decide) (fun x r h => by obtain ⟨pv, rfl, _⟩ := h; rfl)
  have hone := one_flat h1 h2 (fun x r h => h.one)
  obtain ⟨oa, cap, rfl, hle, hcm, hA⟩ := SlR.open hl
  cases oa with
  | none =>
    have h0 : l = [] := by
      cases l with
      | nil => rfl
      | cons x t => obtain ⟨_, _, _, h, _⟩ := hA 0 x rfl; cases h
    subst h0
    clear hA hl h1 h2 h3 hone hb hle hcm
    go_enter Tryz.func55, Tryz.ntmps55
    go_wp2
    go_ret
    exact ⟨_, none, rfl, OwnL.nil _ _ _ _, Grow.rfl' w, by simp⟩
  | some a =>
    have hO := OwnS.lit w #[] 89 3 0 (by simp [maxLen]) rfl
    have hg : Grow w (w.alloc (.cells #[] 89)) := (Grow.rfl' w).allocd _
    have HO := Lib.hid hO; have HG := Lib.hid hg; have H1 := Lib.hid h1; have H2 := Lib.hid h2; have H3 := Lib.hid h3; have HN := Lib.hid hone; have HB := Lib.hid hb
    clear hO hg h1 h2 h3 hone hb hA hl hle hcm
    go_enter Tryz.func55, Tryz.ntmps55
    go_wp2_with (at_builtin; go_must (refine wpList_append_S _ rfl (.tmp 5) (.tmp 6) 59 rfl 89 i0 _ 3 48 Tryz.underlying59 hi hz0 hz1 hz2 rfl (by decide) (.slice (some ⟨w.heap.size, 0, none⟩) 0 0) 0 [] (some w.heap.size) rfl HO.out (.slice (some a) l.length cap) rfl l.length rows.flatten (H3.out.grow HG.out) HN.out (by have := HB.out; unfold maxLen; omega) (by have := HB.out; omega) ?_))
    intro v' w2 ob' hown hmod hob _
    have hg2 : Grow w w2 := HG.out.modd hmod (fun b hb => by first | (simp only [Option.some.injEq] at hb; omega) | omega)
    have hfin : OwnL w2 89 3 (RNode S w2) v' l ob' := ⟨rows, H1.out, fun k x r ha hb => ⟨(H2.out k x r ha hb).1.mod (Mod.of_grow (F := fun _ => False) hg2) (fun _ _ => id), (H2.out k x r ha hb).2⟩, by simpa using hown⟩
    have hnew : ∀ b, ob' = some b → w.heap.size ≤ b := fun b hb => by
      rcases hob with h | ⟨g, h, hge⟩
      · rw [h] at hb; cases hb; exact Nat.le_refl _
      · rw [h] at hb; cases hb; first | omega | (simp at hge; omega)
    have HF := Lib.hid hfin; have HG2 := Lib.hid hg2; have HNEW := Lib.hid hnew
    clear hown hmod hob hg2 hfin hnew
    go_wp2_with fail
    go_ret
    exact ⟨_, ob', rfl, HF.out, HG2.out, HNEW.out⟩

set_option maxRecDepth 100000 in
set_option maxHeartbeats 1000000 in
theorem cloneEdge (S : Nat → Prop) (v : Value) (l : List PEdge) (w : World) (hl : SlR S w 5 (REdge S w) v l) (hb : l.length ≤ 1099511627776) :
    Calls Tryz.prog 79 #[v] w fun e w' => ∃ v' ob, e = .returned v' ∧ OwnL w' 91 5 (REdge S w') v' l ob ∧ Grow w w' ∧ (∀ b, ob = some b → w.heap.size ≤ b) := by
  have hnl := fun (w : World) a n c => Lib.run_eql_slice_nil (P := Tryz.prog) w 84 91 a n c 0 0 Tryz.underlying84
  obtain ⟨i0, hi, hz0, hz1, hz2⟩ := info_parts infoEdge
  obtain ⟨rows, h1, h2, h3⟩ := SlR.rd hl (by decide) (fun x r h => by obtain ⟨pv, rfl, _⟩ := h; rfl)
  have hone := one_flat h1 h2 (fun x r h => h.one)
  obtain ⟨oa, cap, rfl, hle, hcm, hA⟩ := SlR.open hl
  cases oa with
  | none =>
    have h0 : l = [] := by
      cases l with
      | nil => rfl
      | cons x t => obtain ⟨_, _, _, h, _⟩ := hA 0 x rfl; cases h
    subst h0
    clear hA hl h1 h2 h3 hone hb hle hcm
    go_enter Tryz.func79, Tryz.ntmps79
    go_wp2
    go_ret
    exact ⟨_, none, rfl, OwnL.nil _ _ _ _, Grow.rfl' w, by simp⟩
  | some a =>
    have hO := OwnS.lit w #[] 91 5 0 (by simp [maxLen]) rfl
    have hg : Grow w (w.alloc (.cells #[] 91)) := (Grow.rfl' w).allocd _
    have HO := Lib.hid hO; have HG := Lib.hid hg; have H1 := Lib.hid h1; have H2 := Lib.hid h2; have H3 := Lib.hid h3; have HN := Lib.hid hone; have HB := Lib.hid hb
    clear hO hg h1 h2 h3 hone hb hA hl hle hcm
    go_enter Tryz.func79, Tryz.ntmps79
    go_wp2_with (at_builtin; go_must (refine wpList_append_S _ rfl (.tmp 5) (.tmp 6) 84 rfl 91 i0 _ 5 64 Tryz.underlying84 hi hz0 hz1 hz2 rfl (by decide) (.slice (some ⟨w.heap.size, 0, none⟩) 0 0) 0 [] (some w.heap.size) rfl HO.out (.slice (some a) l.length cap) rfl l.length rows.flatten (H3.out.grow HG.out) HN.out (by have := HB.out; unfold maxLen; omega) (by have := HB.out; omega) ?_))
    intro v' w2 ob' hown hmod hob _
    have hg2 : Grow w w2 := HG.out.modd hmod (fun b hb => by first | (simp only [Option.some.injEq] at hb; omega) | omega)
    have hfin : OwnL w2 91 5 (REdge S w2) v' l ob' := ⟨rows, H1.out, fun k x r ha hb => ⟨(H2.out k x r ha hb).1.mod (Mod.of_grow (F := fun _ => False) hg2) (fun _ _ => id), (H2.out k x r ha hb).2⟩, by simpa using hown⟩
    have hnew : ∀ b, ob' = some b → w.heap.size ≤ b := fun b hb => by
      rcases hob with h | ⟨g, h, hge⟩
      · rw [h] at hb; cases hb; exact Nat.le_refl _
      · rw [h] at hb; cases hb; first | omega | (simp at hge; omega)
    have HF := Lib.hid hfin; have HG2 := Lib.hid hg2; have HNEW := Lib.hid hnew
    clear hown hmod hob hg2 hfin hnew
    go_wp2_with fail
    go_ret
    exact ⟨_, ob', rfl, HF.out, HG2.out, HNEW.out⟩

end Go.Hg
