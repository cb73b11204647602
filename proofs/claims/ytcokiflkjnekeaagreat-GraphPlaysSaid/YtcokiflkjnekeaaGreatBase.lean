/- Worlds that grow, worlds that are changed in a set of blocks alone, slices that read as lists: words for contracts. No condition. -/
import Derived.WalkKit
import Derived.WalkSpells
import Derived.WalkLawsBesides
import Derived.Lib.Hide
import Derived.BigQuiet
import Derived.Deep.LoopGhost
namespace Go.Hg
open Go.RowKit

/-- nothing that was there has changed -/
abbrev Grow (w w' : World) : Prop := Below w.heap.size w w'

theorem Grow.rfl' (w : World) : Grow w w := Below.refl _ _
theorem Grow.step {a b c : World} (h : Grow a b) (k : Grow b c) : Grow a c := h.trans (k.mono h.size)
theorem Grow.allocd {a b : World} (h : Grow a b) (o : Obj) : Grow a (b.alloc o) := h.alloc h.size o
theorem Grow.drewd {a b : World} (h : Grow a b) : Grow a b.drew := h.drew
theorem Grow.heapEq {a b : World} (h : Grow a b) {k : Nat} (hk : k < a.heap.size) : b.heap[k]? = a.heap[k]? := h.block k hk

/-- the blocks of F alone (and new ones) may have changed -/
structure Mod (F : Nat → Prop) (w w' : World) : Prop where
  os : w'.os = w.os
  tape : w'.tape = w.tape
  output : w'.output = w.output
  size : w.heap.size ≤ w'.heap.size
  block : ∀ k, k < w.heap.size → ¬ F k → w'.heap[k]? = w.heap[k]?

theorem Mod.rfl' (F : Nat → Prop) (w : World) : Mod F w w := ⟨rfl, rfl, rfl, Nat.le_refl _, fun _ _ _ => rfl⟩
theorem Mod.of_grow {F : Nat → Prop} {w w' : World} (h : Grow w w') : Mod F w w' := ⟨h.os, h.tape, h.output, h.size, fun k hk _ => h.block k hk⟩
theorem Mod.step {F : Nat → Prop} {a b c : World} (h : Mod F a b) (k : Mod F b c) : Mod F a c :=
  ⟨k.os.trans h.os, k.tape.trans h.tape, k.output.trans h.output, Nat.le_trans h.size k.size, fun i hi hF => (k.block i (Nat.lt_of_lt_of_le hi h.size) hF).trans (h.block i hi hF)⟩
/-- the later step may change what is new, too -/
theorem Mod.step' {F F' : Nat → Prop} {a b c : World} (h : Mod F a b) (k : Mod F' b c) (hF : ∀ x, F' x → F x ∨ a.heap.size ≤ x) : Mod F a c :=
  ⟨k.os.trans h.os, k.tape.trans h.tape, k.output.trans h.output, Nat.le_trans h.size k.size, fun i hi hn =>
    (k.block i (Nat.lt_of_lt_of_le hi h.size) (fun h' => (hF i h').elim hn (fun hh => by omega))).trans (h.block i hi hn)⟩
theorem Mod.mono {F F' : Nat → Prop} {a b : World} (h : Mod F a b) (hF : ∀ x, F x → F' x) : Mod F' a b :=
  ⟨h.os, h.tape, h.output, h.size, fun k hk hn => h.block k hk (fun h' => hn (hF k h'))⟩
theorem Mod.allocd {F : Nat → Prop} {a b : World} (h : Mod F a b) (o : Obj) : Mod F a (b.alloc o) := h.step (Mod.of_grow ((Grow.rfl' b).allocd o))
theorem Mod.drewd {F : Nat → Prop} {a b : World} (h : Mod F a b) : Mod F a b.drew := h.step (Mod.of_grow ((Grow.rfl' b).drewd))
theorem Mod.setd {F : Nat → Prop} {a b : World} (h : Mod F a b) {p : Addr} (hp : F p.block ∨ a.heap.size ≤ p.block) (u : Value) : Mod F a (b.setCell p u) :=
  h.step' (F' := fun x => x = p.block) ⟨rfl, rfl, rfl, by simp, fun k _ hk => Below.heap_setCell _ _ _ _ hk⟩ (fun x hx => by subst hx; exact hp)
theorem Mod.grow {a b : World} (h : Mod (fun _ => False) a b) : Grow a b := ⟨h.os, h.tape, h.output, h.size, fun k hk => h.block k hk id⟩

theorem Grow.modd {F : Nat → Prop} {a b c : World} (h : Grow a b) (k : Mod F b c) (hF : ∀ x, F x → a.heap.size ≤ x) : Grow a c :=
  h.trans ⟨k.os, k.tape, k.output, k.size, fun i hi => k.block i (Nat.lt_of_lt_of_le hi h.size) (fun h' => by have := hF i h'; omega)⟩
theorem Grow.setd {a b : World} (h : Grow a b) {p : Addr} (hp : a.heap.size ≤ p.block) (u : Value) : Grow a (b.setCell p u) := h.setCell hp u
theorem blk_cell {w : World} {b : Nat} {cs : Array Value} {e : TypeId} {fr : Nat × Nat} (h : w.heap[b]? = some (.cells cs e fr)) (o : Nat) : w.cell? ⟨b, o, none⟩ = cs[o]? := by
  simp [World.cell?, h]
theorem blk_free {w : World} {b : Nat} {cs : Array Value} {e : TypeId} (h : w.heap[b]? = some (.cells cs e (0, 0))) (o : Nat) : w.frozen? ⟨b, o, none⟩ = false := by
  simp [World.frozen?, h]
theorem blk_lt {w : World} {b : Nat} {o : Obj} (h : w.heap[b]? = some o) : b < w.heap.size := (Array.getElem?_eq_some_iff.1 h).1
theorem cell_lt {w : World} {b o : Nat} {v : Value} (h : w.cell? ⟨b, o, none⟩ = some v) : b < w.heap.size := World.block_lt_of_cell? w _ h

/-- A slice value v whose elements are the list l: element x is the row of sz cells that R tells. The blocks are of S. -/
def SlR {α : Type} (S : Nat → Prop) (w : World) (sz : Nat) (R : α → List Value → Prop) (v : Value) (l : List α) : Prop :=
  ∃ a cap, ∃ rows : List (List Value), v = .slice a l.length cap ∧ l.length ≤ cap ∧ cap ≤ maxLen ∧ rows.length = l.length ∧
    (∀ (k : Nat) x r, l[k]? = some x → rows[k]? = some r → R x r) ∧
    (0 < l.length → ∃ b off, a = some ⟨b, off, none⟩ ∧ S b ∧ b < w.heap.size ∧
      ∀ (k : Nat) r (j : Nat) c, rows[k]? = some r → r[j]? = some c → w.cell? ⟨b, off + k * sz + j, none⟩ = some c)

theorem SlR.keep {α : Type} {S : Nat → Prop} {w w' : World} {sz : Nat} {R R' : α → List Value → Prop} {v : Value} {l : List α} (h : SlR S w sz R v l)
    (hw : ∀ b, S b → b < w.heap.size → w'.heap[b]? = w.heap[b]?) (hs : w.heap.size ≤ w'.heap.size) (hR : ∀ x r, x ∈ l → R x r → R' x r) : SlR S w' sz R' v l := by
  obtain ⟨a, cap, rows, hv, hl, hc, hr, hR1, h⟩ := h
  refine ⟨a, cap, rows, hv, hl, hc, hr, fun k x r h1 h2 => hR _ _ (List.mem_of_getElem? h1) (hR1 k x r h1 h2), fun h0 => ?_⟩
  obtain ⟨b, off, ha, hS, hb, hcell⟩ := h h0
  exact ⟨b, off, ha, hS, Nat.lt_of_lt_of_le hb hs, fun k r j c h1 h2 => (World.cell?_of_block (w := w) (hw b hS hb)).trans (hcell k r j c h1 h2)⟩

theorem SlR.sub {α : Type} {S S' : Nat → Prop} {w : World} {sz : Nat} {R R' : α → List Value → Prop} {v : Value} {l : List α} (h : SlR S w sz R v l)
    (hS : ∀ b, S b → S' b) (hR : ∀ x r, x ∈ l → R x r → R' x r) : SlR S' w sz R' v l := by
  obtain ⟨a, cap, rows, hv, hl, hc, hr, hR1, h⟩ := h
  refine ⟨a, cap, rows, hv, hl, hc, hr, fun k x r h1 h2 => hR _ _ (List.mem_of_getElem? h1) (hR1 k x r h1 h2), fun h0 => ?_⟩
  obtain ⟨b, off, ha, hS', hb, hcell⟩ := h h0
  exact ⟨b, off, ha, hS _ hS', hb, hcell⟩

/-- What a walk wants of a slice: its value in one form, an element's cells under its condition. -/
theorem SlR.open {α : Type} {S : Nat → Prop} {w : World} {sz : Nat} {R : α → List Value → Prop} {v : Value} {l : List α} (h : SlR S w sz R v l) :
    ∃ a cap, v = .slice a l.length cap ∧ l.length ≤ cap ∧ cap ≤ maxLen ∧
      ∀ (k : Nat) x, l[k]? = some x → ∃ b off r, a = some ⟨b, off, none⟩ ∧ S b ∧ b < w.heap.size ∧ R x r ∧
        ∀ (j : Nat) c, r[j]? = some c → w.cell? ⟨b, off + k * sz + j, none⟩ = some c := by
  obtain ⟨a, cap, rows, hv, hl, hc, hr, hR1, h⟩ := h
  refine ⟨a, cap, hv, hl, hc, fun k x hx => ?_⟩
  have hk : k < l.length := (List.getElem?_eq_some_iff.1 hx).1
  obtain ⟨b, off, ha, hS, hb, hcell⟩ := h (by omega)
  have hrk : rows[k]? = some rows[k] := List.getElem?_eq_getElem (by omega)
  exact ⟨b, off, rows[k], ha, hS, hb, hR1 k x _ hx hrk, fun j c hj => hcell k _ j c hrk hj⟩

/-- worlds that w grows into, as a type: the class of a region that reads and calls what makes memory -/
structure Gr (w : World) where
  x : World
  h : Grow w x
instance (w : World) : Nonempty (Gr w) := ⟨⟨w, Grow.rfl' w⟩⟩
@[go_sem] theorem gr_cell {w : World} (g : Gr w) {b o : Nat} (h : b < w.heap.size) : g.x.cell? ⟨b, o, none⟩ = w.cell? ⟨b, o, none⟩ := World.cell?_of_block (w := w) (g.h.block b h)
@[go_sem] theorem gr_free {w : World} (g : Gr w) {b o : Nat} (h : b < w.heap.size) : g.x.frozen? ⟨b, o, none⟩ = w.frozen? ⟨b, o, none⟩ := World.frozen?_of_block (w := w) (g.h.block b h)

theorem wp_region_grow {P : Program} {id : Nat} {Q : Exit → Act → World → Prop} {a : Act} {w : World} {l : List Oper} (hm : P.follows .mixedOrders = true) (hB : Region.lexB .any l.toArray = true)
    (h : wpQuiet P l.toArray (fun w' => ∃ g : Gr w, w' = g.x) (fun a' => ∀ w', Grow w w' → Q .normal a' w') l a) : (Code.region id l.toArray true).wp P Q a w := by
  refine wp_region_quiet (C := fun w' => ∃ g : Gr w, w' = g.x) hm hB ⟨⟨_, (Grow.rfl' w).drewd⟩, rfl⟩ ?_
  have e : (fun a' => ∀ w', (∃ g : Gr w, w' = g.x) → Q .normal a' w') = (fun a' => ∀ w', Grow w w' → Q .normal a' w') := by
    funext a'
    exact propext ⟨fun h w' hw => h w' ⟨⟨w', hw⟩, rfl⟩, fun h w' ⟨g, hg⟩ => hg ▸ h _ g.h⟩
  rw [e]
  simpa using h
/-- a callee's contract at such a region -/
theorem calls_gr {P : Program} {f : FuncId} {args : Array Value} {w : World} {g : Gr w} {v : Value}
    (h : Calls P f args g.x fun e w' => e = .returned v ∧ Grow g.x w') : Calls P f args g.x fun e w'' => e = .returned v ∧ ∃ g' : Gr w, w'' = g'.x :=
  h.mono fun _ w'' ⟨he, hw⟩ => ⟨he, ⟨w'', g.h.step hw⟩, rfl⟩

theorem ba_beq (a b : ByteArray) : (a.toList == b.toList) = decide (a = b) := by
  rw [ByteArray.toList_eq, ByteArray.toList_eq]
  by_cases h : a = b
  · subst h; simp
  · have h2 : ¬ a.data.toList = b.data.toList := fun e => h (ByteArray.ext (Array.toList_inj.1 e))
    rw [decide_eq_false h]
    exact beq_eq_false_iff_ne.2 h2
attribute [go_sem] ba_beq

end Go.Hg
