/- Worlds that grow, worlds that are changed in a set of blocks alone, slices that read as lists: words for contracts; A slice that is one's own: a whole row of a block, or empty without capacity; what append makes of it; The program's plain data as Lean data, and how it lies in cells; Slices of nodes and edges that are one's own; Catalogs as data; slices.Index, Contains at texts; schema.names, Has; hedgerowref14.list, Has; val.Name, Good; hedgerowref02.Name, Good, Blank; Who is near whom: the plain words, who is reached, which path is told; Who is near whom: the plain words of the reference's way. Conditions: those that each theorem names. -/
import Derived.WalkKit
import Derived.WalkSpells
import Derived.WalkLawsBesides
import Derived.Lib.Hide
import Derived.BigQuiet
import Derived.Deep.LoopGhost
import Derived.Test.YtanijffgogpmdaaGreatRows
namespace Go.Hg
open Go.RowKit

/-- nothing that was there has changed -/
abbrev Grow (w w' : World) : Prop := Below w.heap.size w w'

theorem Grow.rfl' (w : World) : Grow w w := Below.refl _ _
theorem Grow.step {a b c : World} (h : Grow a b) (k : Grow b c) : Grow a c := h.trans (k.mono h.size)
theorem Grow.allocd {a b : World} (h : Grow a b) (o : Obj) : Grow a (b.alloc o) := h.alloc h.size o
theorem Grow.drewd {a b : World} (h : Grow a b) : Grow a b.drew := h.drew
theorem Grow.heapEq {a b : World} (h : Grow a b) {k : Nat} (hk : k < a.heap.size) : b.heap[k]? = a.heap[k]? := h.block k hk

/-- the blocks of F alone (and new ones) may have changed -/
structure Mod (F : Nat → Prop) (w w' : World) : Prop where
  os : w'.os = w.os
  tape : w'.tape = w.tape
  output : w'.output = w.output
  size : w.heap.size ≤ w'.heap.size
  block : ∀ k, k < w.heap.size → ¬ F k → w'.heap[k]? = w.heap[k]?

theorem Mod.rfl' (F : Nat → Prop) (w : World) : Mod F w w := ⟨rfl, rfl, rfl, Nat.le_refl _, fun _ _ _ => rfl⟩
theorem Mod.of_grow {F : Nat → Prop} {w w' : World} (h : Grow w w') : Mod F w w' := ⟨h.os, h.tape, h.output, h.size, fun k hk _ => h.block k hk⟩
theorem Mod.step {F : Nat → Prop} {a b c : World} (h : Mod F a b) (k : Mod F b c) : Mod F a c :=
  ⟨k.os.trans h.os, k.tape.trans h.tape, k.output.trans h.output, Nat.le_trans h.size k.size, fun i hi hF => (k.block i (Nat.lt_of_lt_of_le hi h.size) hF).trans (h.block i hi hF)⟩
/-- the later step may change what is new, too -/
theorem Mod.step' {F F' : Nat → Prop} {a b c : World} (h : Mod F a b) (k : Mod F' b c) (hF : ∀ x, F' x → F x ∨ a.heap.size ≤ x) : Mod F a c :=
  ⟨k.os.trans h.os, k.tape.trans h.tape, k.output.trans h.output, Nat.le_trans h.size k.size, fun i hi hn =>
    (k.block i (Nat.lt_of_lt_of_le hi h.size) (fun h' => (hF i h').elim hn (fun hh => by omega))).trans (h.block i hi hn)⟩
theorem Mod.mono {F F' : Nat → Prop} {a b : World} (h : Mod F a b) (hF : ∀ x, F x → F' x) : Mod F' a b :=
  ⟨h.os, h.tape, h.output, h.size, fun k hk hn => h.block k hk (fun h' => hn (hF k h'))⟩
theorem Mod.allocd {F : Nat → Prop} {a b : World} (h : Mod F a b) (o : Obj) : Mod F a (b.alloc o) := h.step (Mod.of_grow ((Grow.rfl' b).allocd o))
theorem Mod.drewd {F : Nat → Prop} {a b : World} (h : Mod F a b) : Mod F a b.drew := h.step (Mod.of_grow ((Grow.rfl' b).drewd))
theorem Mod.setd {F : Nat → Prop} {a b : World} (h : Mod F a b) {p : Addr} (hp : F p.block ∨ a.heap.size ≤ p.block) (u : Value) : Mod F a (b.setCell p u) :=
  h.step' (F' := fun x => x = p.block) ⟨rfl, rfl, rfl, by simp, fun k _ hk => Below.heap_setCell _ _ _ _ hk⟩ (fun x hx => by subst hx; exact hp)
theorem Mod.grow {a b : World} (h : Mod (fun _ => False) a b) : Grow a b := ⟨h.os, h.tape, h.output, h.size, fun k hk => h.block k hk id⟩

theorem Grow.modd {F : Nat → Prop} {a b c : World} (h : Grow a b) (k : Mod F b c) (hF : ∀ x, F x → a.heap.size ≤ x) : Grow a c :=
  h.trans ⟨k.os, k.tape, k.output, k.size, fun i hi => k.block i (Nat.lt_of_lt_of_le hi h.size) (fun h' => by have := hF i h'; omega)⟩
theorem Grow.setd {a b : World} (h : Grow a b) {p : Addr} (hp : a.heap.size ≤ p.block) (u : Value) : Grow a (b.setCell p u) := h.setCell hp u
theorem blk_cell {w : World} {b : Nat} {cs : Array Value} {e : TypeId} {fr : Nat × Nat} (h : w.heap[b]? = some (.cells cs e fr)) (o : Nat) : w.cell? ⟨b, o, none⟩ = cs[o]? := by
  simp [World.cell?, h]
theorem blk_free {w : World} {b : Nat} {cs : Array Value} {e : TypeId} (h : w.heap[b]? = some (.cells cs e (0, 0))) (o : Nat) : w.frozen? ⟨b, o, none⟩ = false := by
  simp [World.frozen?, h]
theorem blk_lt {w : World} {b : Nat} {o : Obj} (h : w.heap[b]? = some o) : b < w.heap.size := (Array.getElem?_eq_some_iff.1 h).1
theorem cell_lt {w : World} {b o : Nat} {v : Value} (h : w.cell? ⟨b, o, none⟩ = some v) : b < w.heap.size := World.block_lt_of_cell? w _ h

/-- A slice value v whose elements are the list l: element x is the row of sz cells that R tells. The blocks are of S. -/
def SlR {α : Type} (S : Nat → Prop) (w : World) (sz : Nat) (R : α → List Value → Prop) (v : Value) (l : List α) : Prop :=
  ∃ a cap, ∃ rows : List (List Value), v = .slice a l.length cap ∧ l.length ≤ cap ∧ cap ≤ maxLen ∧ rows.length = l.length ∧
    (∀ (k : Nat) x r, l[k]? = some x → rows[k]? = some r → R x r) ∧
    (0 < l.length → ∃ b off, a = some ⟨b, off, none⟩ ∧ S b ∧ b < w.heap.size ∧
      ∀ (k : Nat) r (j : Nat) c, rows[k]? = some r → r[j]? = some c → w.cell? ⟨b, off + k * sz + j, none⟩ = some c)

theorem SlR.keep {α : Type} {S : Nat → Prop} {w w' : World} {sz : Nat} {R R' : α → List Value → Prop} {v : Value} {l : List α} (h : SlR S w sz R v l)
    (hw : ∀ b, S b → b < w.heap.size → w'.heap[b]? = w.heap[b]?) (hs : w.heap.size ≤ w'.heap.size) (hR : ∀ x r, x ∈ l → R x r → R' x r) : SlR S w' sz R' v l := by
  obtain ⟨a, cap, rows, hv, hl, hc, hr, hR1, h⟩ := h
  refine ⟨a, cap, rows, hv, hl, hc, hr, fun k x r h1 h2 => hR _ _ (List.mem_of_getElem? h1) (hR1 k x r h1 h2), fun h0 => ?_⟩
  obtain ⟨b, off, ha, hS, hb, hcell⟩ := h h0
  exact ⟨b, off, ha, hS, Nat.lt_of_lt_of_le hb hs, fun k r j c h1 h2 => (World.cell?_of_block (w := w) (hw b hS hb)).trans (hcell k r j c h1 h2)⟩

theorem SlR.sub {α : Type} {S S' : Nat → Prop} {w : World} {sz : Nat} {R R' : α → List Value → Prop} {v : Value} {l : List α} (h : SlR S w sz R v l)
    (hS : ∀ b, S b → S' b) (hR : ∀ x r, x ∈ l → R x r → R' x r) : SlR S' w sz R' v l := by
  obtain ⟨a, cap, rows, hv, hl, hc, hr, hR1, h⟩ := h
  refine ⟨a, cap, rows, hv, hl, hc, hr, fun k x r h1 h2 => hR _ _ (List.mem_of_getElem? h1) (hR1 k x r h1 h2), fun h0 => ?_⟩
  obtain ⟨b, off, ha, hS', hb, hcell⟩ := h h0
  exact ⟨b, off, ha, hS _ hS', hb, hcell⟩

/-- What a walk wants of a slice: its value in one form, an element's cells under its condition. -/
theorem SlR.open {α : Type} {S : Nat → Prop} {w : World} {sz : Nat} {R : α → List Value → Prop} {v : Value} {l : List α} (h : SlR S w sz R v l) :
    ∃ a cap, v = .slice a l.length cap ∧ l.length ≤ cap ∧ cap ≤ maxLen ∧
      ∀ (k : Nat) x, l[k]? = some x → ∃ b off r, a = some ⟨b, off, none⟩ ∧ S b ∧ b < w.heap.size ∧ R x r ∧
        ∀ (j : Nat) c, r[j]? = some c → w.cell? ⟨b, off + k * sz + j, none⟩ = some c := by
  obtain ⟨a, cap, rows, hv, hl, hc, hr, hR1, h⟩ := h
  refine ⟨a, cap, hv, hl, hc, fun k x hx => ?_⟩
  have hk : k < l.length := (List.getElem?_eq_some_iff.1 hx).1
  obtain ⟨b, off, ha, hS, hb, hcell⟩ := h (by omega)
  have hrk : rows[k]? = some rows[k] := List.getElem?_eq_getElem (by omega)
  exact ⟨b, off, rows[k], ha, hS, hb, hR1 k x _ hx hrk, fun j c hj => hcell k _ j c hrk hj⟩

/-- worlds that w grows into, as a type: the class of a region that reads and calls what makes memory -/
structure Gr (w : World) where
  x : World
  h : Grow w x
instance (w : World) : Nonempty (Gr w) := ⟨⟨w, Grow.rfl' w⟩⟩
@[go_sem] theorem gr_cell {w : World} (g : Gr w) {b o : Nat} (h : b < w.heap.size) : g.x.cell? ⟨b, o, none⟩ = w.cell? ⟨b, o, none⟩ := World.cell?_of_block (w := w) (g.h.block b h)
@[go_sem] theorem gr_free {w : World} (g : Gr w) {b o : Nat} (h : b < w.heap.size) : g.x.frozen? ⟨b, o, none⟩ = w.frozen? ⟨b, o, none⟩ := World.frozen?_of_block (w := w) (g.h.block b h)

theorem wp_region_grow {P : Program} {id : Nat} {Q : Exit → Act → World → Prop} {a : Act} {w : World} {l : List Oper} (hm : P.follows .mixedOrders = true) (hB : Region.lexB .any l.toArray = true)
    (h : wpQuiet P l.toArray (fun w' => ∃ g : Gr w, w' = g.x) (fun a' => ∀ w', Grow w w' → Q .normal a' w') l a) : (Code.region id l.toArray true).wp P Q a w := by
  refine wp_region_quiet (C := fun w' => ∃ g : Gr w, w' = g.x) hm hB ⟨⟨_, (Grow.rfl' w).drewd⟩, rfl⟩ ?_
  have e : (fun a' => ∀ w', (∃ g : Gr w, w' = g.x) → Q .normal a' w') = (fun a' => ∀ w', Grow w w' → Q .normal a' w') := by
    funext a'
    exact propext ⟨fun h w' hw => h w' ⟨⟨w', hw⟩, rfl⟩, fun h w' ⟨g, hg⟩ => hg ▸ h _ g.h⟩
  rw [e]
  simpa using h
/-- a callee's contract at such a region -/
theorem calls_gr {P : Program} {f : FuncId} {args : Array Value} {w : World} {g : Gr w} {v : Value}
    (h : Calls P f args g.x fun e w' => e = .returned v ∧ Grow g.x w') : Calls P f args g.x fun e w'' => e = .returned v ∧ ∃ g' : Gr w, w'' = g'.x :=
  h.mono fun _ w'' ⟨he, hw⟩ => ⟨he, ⟨w'', g.h.step hw⟩, rfl⟩

theorem ba_beq (a b : ByteArray) : (a.toList == b.toList) = decide (a = b) := by
  rw [ByteArray.toList_eq, ByteArray.toList_eq]
  by_cases h : a = b
  · subst h; simp
  · have h2 : ¬ a.data.toList = b.data.toList := fun e => h (ByteArray.ext (Array.toList_inj.1 e))
    rw [decide_eq_false h]
    exact beq_eq_false_iff_ne.2 h2
attribute [go_sem] ba_beq

end Go.Hg

namespace Go.Hg
open Go.RowKit

/-- v is a slice of n elements whose cells are xs: empty without capacity (ob = none), or the head of the whole row of block ob -/
def OwnS (w : World) (E : TypeId) (sz : Nat) (v : Value) (n : Nat) (xs : List Value) (ob : Option Nat) : Prop :=
  xs.length = n * sz ∧
  ((∃ oa, v = .slice oa 0 0 ∧ n = 0 ∧ ob = none ∧ (∀ a : Addr, oa = some a → a.spot = none)) ∨
   ∃ g cap cur, v = .slice (some ⟨g, 0, none⟩) n cap ∧ ob = some g ∧ w.heap[g]? = some (.cells cur E (0, 0)) ∧ n ≤ cap ∧ cap ≤ maxLen ∧ cur.size = cap * sz ∧ cur.toList.take (n * sz) = xs)

theorem OwnS.nil (w : World) (E : TypeId) (sz : Nat) : OwnS w E sz (.slice none 0 0) 0 [] none := ⟨by simp, .inl ⟨none, rfl, rfl, rfl, by simp⟩⟩
theorem OwnS.lit (w : World) (cs : Array Value) (E : TypeId) (sz n : Nat) (hm : n ≤ maxLen) (hs : cs.size = n * sz) :
    OwnS (w.alloc (.cells cs E)) E sz (.slice (some ⟨w.heap.size, 0, none⟩) n n) n cs.toList (some w.heap.size) :=
  ⟨by simpa using hs, .inr ⟨w.heap.size, n, cs, rfl, rfl, heap_alloc_new w _, Nat.le_refl _, hm, hs, List.take_of_length_le (by rw [Array.length_toList, hs]; exact Nat.le_refl _)⟩⟩
theorem OwnS.lt {w : World} {E : TypeId} {sz : Nat} {v : Value} {n : Nat} {xs : List Value} {ob : Option Nat} (h : OwnS w E sz v n xs ob) : ∀ g, ob = some g → g < w.heap.size := by
  intro g hg
  rcases h.2 with ⟨_, _, _, h, _⟩ | ⟨g', cap, cur, rfl, h, hh, _⟩
  · rw [h] at hg; cases hg
  · rw [h] at hg; cases hg; exact blk_lt hh
theorem OwnS.keep {w w' : World} {E : TypeId} {sz : Nat} {v : Value} {n : Nat} {xs : List Value} {ob : Option Nat} (h : OwnS w E sz v n xs ob)
    (hk : ∀ g, ob = some g → w'.heap[g]? = w.heap[g]?) : OwnS w' E sz v n xs ob := by
  refine ⟨h.1, ?_⟩
  rcases h.2 with h | ⟨g, cap, cur, rfl, ho, hh, r⟩
  · exact .inl h
  · exact .inr ⟨g, cap, cur, rfl, ho, (hk g ho).trans hh, r⟩
theorem OwnS.grow {w w' : World} {E : TypeId} {sz : Nat} {v : Value} {n : Nat} {xs : List Value} {ob : Option Nat} (h : OwnS w E sz v n xs ob) (g : Grow w w') : OwnS w' E sz v n xs ob :=
  h.keep fun k hk => g.heapEq (h.lt k hk)
theorem OwnS.isSlice {w : World} {E : TypeId} {sz : Nat} {v : Value} {n : Nat} {xs : List Value} {ob : Option Nat} (h : OwnS w E sz v n xs ob) : ∃ oa cap, v = .slice oa n cap ∧ n ≤ cap ∧ cap ≤ maxLen := by
  rcases h.2 with ⟨oa, rfl, rfl, _⟩ | ⟨g, cap, cur, rfl, _, _, h1, h2, _⟩
  · exact ⟨oa, 0, rfl, Nat.le_refl _, by simp [maxLen]⟩
  · exact ⟨_, cap, rfl, h1, h2⟩
/-- an element's cell -/
theorem OwnS.cell {w : World} {E : TypeId} {sz : Nat} {v : Value} {n : Nat} {xs : List Value} {ob : Option Nat} (h : OwnS w E sz v n xs ob) (h0 : 0 < n) :
    ∃ g cap, v = .slice (some ⟨g, 0, none⟩) n cap ∧ ob = some g ∧ g < w.heap.size ∧ (∀ j u, xs[j]? = some u → w.cell? ⟨g, j, none⟩ = some u) ∧ ∀ j, w.frozen? ⟨g, j, none⟩ = false := by
  rcases h.2 with ⟨oa, _, h1, _⟩ | ⟨g, cap, cur, rfl, ho, hh, h1, h2, h3, h4⟩
  · omega
  · refine ⟨g, cap, rfl, ho, blk_lt hh, fun j u hu => ?_, fun j => blk_free hh j⟩
    rw [blk_cell hh, ← Array.getElem?_toList]
    rw [← h4, List.getElem?_take] at hu
    split at hu
    · exact hu
    · cases hu
/-- a cell is stored -/
theorem OwnS.stored {w : World} {E : TypeId} {sz : Nat} {v : Value} {n : Nat} {xs : List Value} {ob : Option Nat} (h : OwnS w E sz v n xs ob) {g : Nat} (hg : ob = some g) (j : Nat) (u : Value) :
    OwnS (w.setCell ⟨g, j, none⟩ u) E sz v n (xs.set j u) ob := by
  refine ⟨by simpa using h.1, ?_⟩
  rcases h.2 with ⟨oa, _, _, h1, _⟩ | ⟨g', cap, cur, rfl, ho, hh, h1, h2, h3, h4⟩
  · rw [h1] at hg; cases hg
  · rw [ho] at hg; cases hg
    exact .inr ⟨g, cap, cur.setIfInBounds j u, rfl, ho, heap_setCell_same w g j cur E u hh, h1, h2, by simpa using h3, by rw [Array.toList_setIfInBounds, ← h4, List.take_set]⟩

/-- what is read for an append: m elements' cells -/
def Rd (w : World) (sz : Nat) (x : Value) (m : Nat) (news : List Value) : Prop :=
  news.length = m * sz ∧ ∃ oa cap, x = .slice oa m cap ∧ ((m = 0) ∨ ∃ a, oa = some a ∧ ∀ j u, news[j]? = some u → w.cell? (a.add j) = some u)

theorem Rd.lit (w : World) (cs : Array Value) (E : TypeId) (sz n : Nat) (hs : cs.size = n * sz) : Rd (w.alloc (.cells cs E)) sz (.slice (some ⟨w.heap.size, 0, none⟩) n n) n cs.toList := by
  refine ⟨by simpa using hs, _, _, rfl, .inr ⟨_, rfl, fun j u hu => ?_⟩⟩
  have hadd : (⟨w.heap.size, 0, none⟩ : Addr).add j = ⟨w.heap.size, j, none⟩ := by unfold Addr.add; split <;> simp_all
  rw [hadd, blk_cell (heap_alloc_new w _), ← Array.getElem?_toList]
  exact hu

section
variable {P : Program} (w : World)
theorem run_append_S (t ty e : TypeId) (i : TypeInfo) (z : Value) (size bytes : Nat) (ht : P.underlying t = some (.slice e)) (hi : P.info? e = some i) (hz : i.zero = some z)
    (hsize : i.size = size) (hby : i.bytes = bytes) (hzs : z.cells.size = size) (hsz : 0 < size)
    (v : Value) (n : Nat) (xs : List Value) (ob : Option Nat) (hown : OwnS w e size v n xs ob)
    (x : Value) (m : Nat) (news : List Value) (hx : Rd w size x m news) (h1 : ∀ u ∈ news, u.oneCell' = true)
    (h63 : n + m ≤ maxLen) (hbytes : (n + m) * bytes ≤ 140737488355328) :
    ∃ v' w' ob', (Builtin.append_ #[t, t] ty #[v, x]).run P w = .ok v' w' ∧ OwnS w' e size v' (n + m) (xs ++ news) ob' ∧ Mod (fun k => ob = some k) w w' ∧
      (ob' = ob ∨ ∃ g, ob' = some g ∧ w.heap.size ≤ g) ∧ (m = 0 → v' = v) := by
  subst hsize
  subst hby
  obtain ⟨hl, oa, c, rfl, hsrc⟩ := hx
  have hsmall : n + m ≤ 9223372036854775807 := by simp only [maxLen] at h63; omega
  have hlen : (xs ++ news).length = (n + m) * i.size := by rw [List.length_append, hown.1, hl, Nat.add_mul]
  rcases hsrc with rfl | ⟨a, rfl, hnews⟩
  · have hn : news = [] := List.eq_nil_of_length_eq_zero (by simpa using hl)
    subst hn
    obtain ⟨oa', cap, rfl, hc, _⟩ := hown.isSlice
    refine ⟨_, w, ob, ?_, by simpa using hown, Mod.rfl' _ _, .inl rfl, fun _ => rfl⟩
    cases oa <;> cases oa' <;>
      simp [Builtin.append_, run_underlying ht, sizeOf, typeInfo, hi, Builtin.lenOf, hc, Builtin.firstCells, loadCells, loadCellsFrom, storeCells]
  · by_cases hm : m = 0
    · subst hm
      have hn : news = [] := List.eq_nil_of_length_eq_zero (by simpa using hl)
      subst hn
      obtain ⟨oa', cap, rfl, hc, _⟩ := hown.isSlice
      refine ⟨_, w, ob, ?_, by simpa using hown, Mod.rfl' _ _, .inl rfl, fun _ => rfl⟩
      cases oa' <;>
        simp [Builtin.append_, run_underlying ht, sizeOf, typeInfo, hi, Builtin.lenOf, hc, Builtin.firstCells, loadCells, loadCellsFrom, storeCells]
    · have grown : ∀ (old : Nat), old < n + m →
          OwnS (w.drew.alloc (.cells (xs.toArray ++ news.toArray ++ Builtin.zeroCells z.cells (grownCap w (n + m) old e - (n + m))) e)) e i.size
            (.slice (some ⟨w.heap.size, 0, none⟩) (n + m) (grownCap w (n + m) old e)) (n + m) (xs ++ news) (some w.heap.size) := by
        intro old ho
        have hge := grownCap_ge w (n + m) old e
        have hcm : grownCap w (n + m) old e ≤ maxLen := grownCap_le_maxLen w (n + m) old e h63
        refine ⟨hlen, .inr ⟨w.heap.size, _, _, rfl, rfl, heap_alloc_new w.drew _, hge, hcm, ?_, ?_⟩⟩
        · simp only [Array.size_append, List.size_toArray, size_zeroCells, hzs, hown.1, hl, ← Nat.add_mul]
          congr 1
          omega
        · simp only [Array.toList_append, List.append_assoc]
          rw [← List.append_assoc, ← hlen]
          exact List.take_left
      have hmod : ∀ o, Mod (fun k => ob = some k) w (w.drew.alloc o) := fun o => ((Mod.rfl' _ w).drewd).allocd o
      rcases hown.2 with ⟨oa', rfl, rfl, rfl, hsp⟩ | ⟨g, cap, cur, rfl, rfl, hg, hnc, hcm, hcs, htake⟩
      · have hx : xs = [] := List.eq_nil_of_length_eq_zero (by simpa using hown.1)
        subst hx
        have hgr := grown 0 (by omega)
        cases oa' with
        | none =>
          have hr := run_append_nil (P := P) w t ty e i z ht hi hz a m c news hl hnews (by omega) (by omega) (by have hb := hbytes; simp only [Nat.zero_add] at hb; omega)
          simp only [Nat.zero_add, List.nil_append, Array.empty_append] at hgr ⊢
          exact ⟨_, _, _, hr, hgr, hmod _, .inr ⟨_, rfl, Nat.le_refl _⟩, fun h => absurd h hm⟩
        | some b =>
          have hr := run_append_grow (P := P) w t ty e i z ht hi hz b 0 0 [] (by simp) (by simp) a m c news hl hnews (by omega) (by omega) (growslice_fits (by omega) hbytes)
          exact ⟨_, _, _, hr, hgr, hmod _, .inr ⟨_, rfl, Nat.le_refl _⟩, fun h => absurd h hm⟩
      · by_cases hroom : n + m ≤ cap
        · have hfit : n * i.size + news.length ≤ cur.size := by rw [hl, hcs, ← Nat.add_mul]; exact Nat.mul_le_mul_right _ hroom
          have hr := run_append_room (P := P) w t ty e i ht hi g n cap cur hg a m c news hl hnews h1 hroom hfit
          refine ⟨_, _, some g, hr, ⟨hlen, .inr ⟨g, cap, _, rfl, rfl, setRow_heap w g cur _ e _ hg, hroom, hcm, ?_, ?_⟩⟩, ⟨rfl, rfl, rfl, by simp, fun k _ hk => setRow_other w g k _ (fun e => hk (by simp [e]))⟩, .inl rfl, fun h => absurd h hm⟩
          · simp only [List.size_toArray, List.length_append, List.length_take, List.length_drop, Array.length_toList]
            omega
          · rw [htake, ← hlen]
            exact List.take_left
        · have holds : ∀ j u, xs[j]? = some u → w.cell? ((⟨g, 0, none⟩ : Addr).add j) = some u := by
            intro j u hu
            have hadd : (⟨g, 0, none⟩ : Addr).add j = ⟨g, j, none⟩ := by unfold Addr.add; split <;> simp_all
            rw [hadd, blk_cell hg, ← Array.getElem?_toList]
            rw [← htake, List.getElem?_take] at hu
            split at hu
            · exact hu
            · cases hu
          have hr := run_append_grow (P := P) w t ty e i z ht hi hz ⟨g, 0, none⟩ n cap xs hown.1 holds a m c news hl hnews (by omega) (by omega) (growslice_fits (by omega) hbytes)
          exact ⟨_, _, _, hr, grown cap (by omega), hmod _, .inr ⟨_, rfl, Nat.le_refl _⟩, fun h => absurd h hm⟩

theorem wp_append_S {o : Oper} {a : Act} {K : Act → World → Prop} {Q : Exit → Act → World → Prop} (s x : Operand) (t : TypeId)
    (ho : o.op = .call { callee := .builtin .append, args := #[s, x], argTypes := #[t, t] })
    (e : TypeId) (i : TypeInfo) (z : Value) (size bytes : Nat) (ht : P.underlying t = some (.slice e)) (hi : P.info? e = some i) (hz : i.zero = some z)
    (hsize : i.size = size) (hby : i.bytes = bytes) (hzs : z.cells.size = size) (hsz : 0 < size)
    (v : Value) (n : Nat) (xs : List Value) (ob : Option Nat) (hs : a.eval s = v) (hown : OwnS w e size v n xs ob)
    (xv : Value) (hxv : a.eval x = xv) (m : Nat) (news : List Value) (hx : Rd w size xv m news) (h1 : ∀ u ∈ news, u.oneCell' = true)
    (h63 : n + m ≤ maxLen) (hbytes : (n + m) * bytes ≤ 140737488355328)
    (h : ∀ v' w' ob', OwnS w' e size v' (n + m) (xs ++ news) ob' → Mod (fun k => ob = some k) w w' → (ob' = ob ∨ ∃ g, ob' = some g ∧ w.heap.size ≤ g) → (m = 0 → v' = v) → K (a.put o.dst v') w') : o.wp P a w K Q := by
  obtain ⟨v', w', ob', hr, h2, h3, h4, h5⟩ := run_append_S (P := P) w t o.type e i z size bytes ht hi hz hsize hby hzs hsz v n xs ob hown xv m news hx h1 h63 hbytes
  unfold Oper.wp execOp
  simp only [ho, resolve, invoke, builtin, Sem.run_bind, Sem.run_pure, Result.andThen_ok, List.map_toArray, List.map_cons, List.map_nil, hs, hxv, hr]
  exact h v' w' ob' h2 h3 h4 h5

theorem wpList_append_S {ops : Array Oper} {rest : List Oper} {o : Oper} {a : Act} {Q : Exit → Act → World → Prop} (hgd : o.guard = none) (s x : Operand) (t : TypeId)
    (ho : o.op = .call { callee := .builtin .append, args := #[s, x], argTypes := #[t, t] })
    (e : TypeId) (i : TypeInfo) (z : Value) (size bytes : Nat) (ht : P.underlying t = some (.slice e)) (hi : P.info? e = some i) (hz : i.zero = some z)
    (hsize : i.size = size) (hby : i.bytes = bytes) (hzs : z.cells.size = size) (hsz : 0 < size)
    (v : Value) (n : Nat) (xs : List Value) (ob : Option Nat) (hs : a.eval s = v) (hown : OwnS w e size v n xs ob)
    (xv : Value) (hxv : a.eval x = xv) (m : Nat) (news : List Value) (hx : Rd w size xv m news) (h1 : ∀ u ∈ news, u.oneCell' = true)
    (h63 : n + m ≤ maxLen) (hbytes : (n + m) * bytes ≤ 140737488355328)
    (h : ∀ v' w' ob', OwnS w' e size v' (n + m) (xs ++ news) ob' → Mod (fun k => ob = some k) w w' → (ob' = ob ∨ ∃ g, ob' = some g ∧ w.heap.size ≤ g) → (m = 0 → v' = v) → wpList P ops Q rest (a.put o.dst v') w') : wpList P ops Q (o :: rest) a w :=
  wpList_plain hgd fun _ hK => wp_append_S w s x t ho e i z size bytes ht hi hz hsize hby hzs hsz v n xs ob hs hown xv hxv m news hx h1 h63 hbytes fun v' w' ob' h2 h3 h4 h5 => hK _ _ (h v' w' ob' h2 h3 h4 h5)
end
end Go.Hg

namespace Go.Hg
open Go.RowKit

structure PVal where
  kind : Int
  n : Int
  s : ByteArray
deriving DecidableEq

structure PProp where
  name : ByteArray
  v : PVal
deriving DecidableEq

structure PNode where
  id : Int
  typ : ByteArray
  props : List PProp
deriving DecidableEq

structure PEdge where
  id : Int
  typ : ByteArray
  from_ : Int
  to_ : Int
  props : List PProp
deriving DecidableEq

abbrev PVal.cells (v : PVal) : List Value := [.int .i64 v.kind, .int .i64 v.n, .string v.s]
abbrev PProp.cells (p : PProp) : List Value := [.string p.name, .int .i64 p.v.kind, .int .i64 p.v.n, .string p.v.s]
def RProp (p : PProp) (r : List Value) : Prop := r = p.cells
theorem oneCell_props (ps : List PProp) : ∀ u ∈ (ps.map PProp.cells).flatten, u.oneCell' = true := by
  intro u hu
  obtain ⟨r, hr, hur⟩ := List.mem_flatten.1 hu
  obtain ⟨p, _, rfl⟩ := List.mem_map.1 hr
  simp only [PProp.cells, List.mem_cons, List.not_mem_nil, or_false] at hur
  rcases hur with rfl | rfl | rfl | rfl <;> rfl
/-- properties that lie in blocks of S -/
def PropsR (S : Nat → Prop) (w : World) (v : Value) (ps : List PProp) : Prop := SlR S w 4 RProp v ps
def RNode (S : Nat → Prop) (w : World) (n : PNode) (r : List Value) : Prop := ∃ pv, r = [.int .i64 n.id, .string n.typ, pv] ∧ PropsR S w pv n.props
def REdge (S : Nat → Prop) (w : World) (n : PEdge) (r : List Value) : Prop := ∃ pv, r = [.int .i64 n.id, .string n.typ, .int .i64 n.from_, .int .i64 n.to_, pv] ∧ PropsR S w pv n.props
def NodesR (S : Nat → Prop) (w : World) (v : Value) (l : List PNode) : Prop := SlR S w 3 (RNode S w) v l
def EdgesR (S : Nat → Prop) (w : World) (v : Value) (l : List PEdge) : Prop := SlR S w 5 (REdge S w) v l

theorem PropsR.grow {S : Nat → Prop} {w w' : World} {v : Value} {ps : List PProp} (h : PropsR S w v ps) (g : Grow w w') : PropsR S w' v ps :=
  SlR.keep h (fun _ _ hb => g.heapEq hb) g.size (fun _ _ _ hR => hR)
theorem NodesR.grow {S : Nat → Prop} {w w' : World} {v : Value} {ps : List PNode} (h : NodesR S w v ps) (g : Grow w w') : NodesR S w' v ps :=
  SlR.keep h (fun _ _ hb => g.heapEq hb) g.size (fun _ _ _ ⟨pv, hr, hp⟩ => ⟨pv, hr, hp.grow g⟩)
theorem EdgesR.grow {S : Nat → Prop} {w w' : World} {v : Value} {ps : List PEdge} (h : EdgesR S w v ps) (g : Grow w w') : EdgesR S w' v ps :=
  SlR.keep h (fun _ _ hb => g.heapEq hb) g.size (fun _ _ _ ⟨pv, hr, hp⟩ => ⟨pv, hr, hp.grow g⟩)

/-- the four cells of a property, in a world that has grown -/
theorem RProp.at {w wr : World} {p : PProp} {r : List Value} {b o : Nat} (h : RProp p r) (hb : b < w.heap.size) (g : Grow w wr) (hc : ∀ (j : Nat) c, r[j]? = some c → w.cell? ⟨b, o + j, none⟩ = some c) :
    b < wr.heap.size ∧ wr.cell? ⟨b, o, none⟩ = some (.string p.name) ∧ wr.cell? ⟨b, o + 1, none⟩ = some (.int .i64 p.v.kind) ∧ wr.cell? ⟨b, o + 2, none⟩ = some (.int .i64 p.v.n) ∧ wr.cell? ⟨b, o + 3, none⟩ = some (.string p.v.s) := by
  unfold RProp at h; subst h
  have e : ∀ o', wr.cell? ⟨b, o', none⟩ = w.cell? ⟨b, o', none⟩ := fun o' => World.cell?_of_block (w := w) (g.heapEq hb)
  have hs := g.size
  refine ⟨by omega, ?_, ?_, ?_, ?_⟩ <;> rw [e]
  · exact hc 0 _ rfl
  · exact hc 1 _ rfl
  · exact hc 2 _ rfl
  · exact hc 3 _ rfl

theorem RNode.at {S : Nat → Prop} {w wr : World} {p : PNode} {r : List Value} {b o : Nat} (h : RNode S w p r) (hb : b < w.heap.size) (g : Grow w wr) (hc : ∀ (j : Nat) c, r[j]? = some c → w.cell? ⟨b, o + j, none⟩ = some c) :
    ∃ pv, b < wr.heap.size ∧ wr.cell? ⟨b, o, none⟩ = some (.int .i64 p.id) ∧ wr.cell? ⟨b, o + 1, none⟩ = some (.string p.typ) ∧ wr.cell? ⟨b, o + 2, none⟩ = some pv ∧ PropsR S wr pv p.props := by
  obtain ⟨pv, rfl, hp⟩ := h
  have e : ∀ o', wr.cell? ⟨b, o', none⟩ = w.cell? ⟨b, o', none⟩ := fun o' => World.cell?_of_block (w := w) (g.heapEq hb)
  have hs := g.size
  refine ⟨pv, by omega, ?_, ?_, ?_, hp.grow g⟩ <;> rw [e]
  · exact hc 0 _ rfl
  · exact hc 1 _ rfl
  · exact hc 2 _ rfl
theorem REdge.at {S : Nat → Prop} {w wr : World} {p : PEdge} {r : List Value} {b o : Nat} (h : REdge S w p r) (hb : b < w.heap.size) (g : Grow w wr) (hc : ∀ (j : Nat) c, r[j]? = some c → w.cell? ⟨b, o + j, none⟩ = some c) :
    ∃ pv, b < wr.heap.size ∧ wr.cell? ⟨b, o, none⟩ = some (.int .i64 p.id) ∧ wr.cell? ⟨b, o + 1, none⟩ = some (.string p.typ) ∧ wr.cell? ⟨b, o + 2, none⟩ = some (.int .i64 p.from_) ∧
      wr.cell? ⟨b, o + 3, none⟩ = some (.int .i64 p.to_) ∧ wr.cell? ⟨b, o + 4, none⟩ = some pv ∧ PropsR S wr pv p.props := by
  obtain ⟨pv, rfl, hp⟩ := h
  have e : ∀ o', wr.cell? ⟨b, o', none⟩ = w.cell? ⟨b, o', none⟩ := fun o' => World.cell?_of_block (w := w) (g.heapEq hb)
  have hs := g.size
  refine ⟨pv, by omega, ?_, ?_, ?_, ?_, ?_, hp.grow g⟩ <;> rw [e]
  · exact hc 0 _ rfl
  · exact hc 1 _ rfl
  · exact hc 2 _ rfl
  · exact hc 3 _ rfl
  · exact hc 4 _ rfl
/-- a properties' value is a slice -/
theorem PropsR.isSlice {S : Nat → Prop} {w : World} {v : Value} {ps : List PProp} (h : PropsR S w v ps) : ∃ a c, v = .slice a ps.length c := by
  obtain ⟨a, c, h, _⟩ := SlR.open h
  exact ⟨a, c, h⟩

end Go.Hg

namespace Go.Hg
open Go.RowKit

theorem flatten_at {α : Type} : ∀ (rows : List (List α)) (sz k j : Nat) (r : List α) (c : α), (∀ r ∈ rows, r.length = sz) → rows[k]? = some r → r[j]? = some c → rows.flatten[k * sz + j]? = some c
  | [], sz, k, j, r, c, _, h, _ => by simp at h
  | r0 :: rows, sz, 0, j, r, c, h0, h, hj => by
    simp at h; subst h
    have hlt : j < r0.length := (List.getElem?_eq_some_iff.1 hj).1
    simp [List.getElem?_append_left hlt, hj]
  | r0 :: rows, sz, k + 1, j, r, c, h0, h, hj => by
    have h1 : r0.length = sz := h0 r0 (by simp)
    have ih := flatten_at rows sz k j r c (fun r hr => h0 r (by simp [hr])) (by simpa using h) hj
    rw [List.flatten_cons, List.getElem?_append_right (by rw [h1, Nat.succ_mul]; omega)]
    rw [show (k + 1) * sz + j - r0.length = k * sz + j by rw [h1, Nat.succ_mul]; omega]
    exact ih

def OwnL {α : Type} (w : World) (E : TypeId) (sz : Nat) (R : α → List Value → Prop) (v : Value) (l : List α) (ob : Option Nat) : Prop :=
  ∃ rows : List (List Value), rows.length = l.length ∧ (∀ (k : Nat) x r, l[k]? = some x → rows[k]? = some r → R x r ∧ r.length = sz) ∧ OwnS w E sz v l.length rows.flatten ob

section
variable {α : Type} {w w' : World} {E : TypeId} {sz : Nat} {R R' : α → List Value → Prop} {v v' : Value} {l : List α} {ob ob' : Option Nat}
theorem OwnL.nil (w : World) (E : TypeId) (sz : Nat) (R : α → List Value → Prop) : OwnL w E sz R (.slice none 0 0) [] none := ⟨[], rfl, by simp, OwnS.nil w E sz⟩
theorem OwnL.rowLen (h : OwnL w E sz R v l ob) : ∃ rows : List (List Value), rows.length = l.length ∧ (∀ r ∈ rows, r.length = sz) ∧ (∀ (k : Nat) x r, l[k]? = some x → rows[k]? = some r → R x r ∧ r.length = sz) ∧ OwnS w E sz v l.length rows.flatten ob := by
  obtain ⟨rows, h1, h2, h3⟩ := h
  refine ⟨rows, h1, fun r hr => ?_, h2, h3⟩
  obtain ⟨k, hk, rfl⟩ := List.mem_iff_getElem.1 hr
  exact (h2 k l[k] _ (List.getElem?_eq_getElem (by omega)) (List.getElem?_eq_getElem hk)).2
theorem OwnL.keep (h : OwnL w E sz R v l ob) (hk : ∀ g, ob = some g → w'.heap[g]? = w.heap[g]?) (hR : ∀ x r, x ∈ l → R x r → R' x r) : OwnL w' E sz R' v l ob := by
  obtain ⟨rows, h1, h2, h3⟩ := h
  exact ⟨rows, h1, fun k x r a b => ⟨hR x r (List.mem_of_getElem? a) (h2 k x r a b).1, (h2 k x r a b).2⟩, h3.keep hk⟩
theorem OwnL.toSl (h : OwnL w E sz R v l ob) {S : Nat → Prop} (hS : ∀ g, ob = some g → S g) : SlR S w sz R v l := by
  obtain ⟨rows, h1, hlen, h2, h3⟩ := h.rowLen
  obtain ⟨oa, cap, rfl, hc, hm⟩ := h3.isSlice
  refine ⟨oa, cap, rows, rfl, hc, hm, h1, fun k x r a b => (h2 k x r a b).1, fun h0 => ?_⟩
  obtain ⟨g, cap', hv, ho, hlt, hcell, _⟩ := h3.cell h0
  simp only [Value.slice.injEq] at hv
  refine ⟨g, 0, hv.1, hS g ho, hlt, fun k r j c hr hj => ?_⟩
  rw [Nat.zero_add]
  exact hcell _ _ (flatten_at rows sz k j r c hlen hr hj)
theorem OwnL.snoc (h : OwnL w E sz R v l ob) {x : α} {r : List Value} (hr : R' x r) (hl : r.length = sz) (hR : ∀ x r, x ∈ l → R x r → R' x r)
    (h' : ∀ xs, OwnS w E sz v l.length xs ob → OwnS w' E sz v' (l.length + 1) (xs ++ r) ob') : OwnL w' E sz R' v' (l ++ [x]) ob' := by
  obtain ⟨rows, h1, h2, h3⟩ := h
  refine ⟨rows ++ [r], by simp [h1], fun k y r' hk hk' => ?_, ?_⟩
  · by_cases hlt : k < l.length
    · rw [List.getElem?_append_left hlt] at hk
      rw [List.getElem?_append_left (by omega)] at hk'
      exact ⟨hR _ _ (List.mem_of_getElem? hk) (h2 k y r' hk hk').1, (h2 k y r' hk hk').2⟩
    · rw [List.getElem?_append_right (by omega)] at hk
      rw [List.getElem?_append_right (by omega), h1] at hk'
      have e : k - l.length = 0 := by have := (List.getElem?_eq_some_iff.1 hk).1; simp at this; omega
      rw [e] at hk hk'
      simp at hk hk'
      subst hk; subst hk'
      exact ⟨hr, hl⟩
  · have := h' _ h3
    simpa using this
end

/-- nodes whose array and whose properties' arrays are of F, the array none of the properties' -/
def NodesO (F : Nat → Prop) (w : World) (v : Value) (l : List PNode) : Prop :=
  ∃ (S : Nat → Prop) (ob : Option Nat), (∀ b, S b → F b ∧ b < w.heap.size) ∧ (∀ g, ob = some g → F g ∧ ¬ S g) ∧ OwnL w 94 3 (RNode S w) v l ob
def EdgesO (F : Nat → Prop) (w : World) (v : Value) (l : List PEdge) : Prop :=
  ∃ (S : Nat → Prop) (ob : Option Nat), (∀ b, S b → F b ∧ b < w.heap.size) ∧ (∀ g, ob = some g → F g ∧ ¬ S g) ∧ OwnL w 98 5 (REdge S w) v l ob

theorem PropsR.mod {F S : Nat → Prop} {w w' : World} {v : Value} {ps : List PProp} (h : PropsR S w v ps) (g : Mod F w w') (hd : ∀ b, S b → ¬ F b) : PropsR S w' v ps :=
  SlR.keep h (fun b hS hb => g.block b hb (hd b hS)) g.size (fun _ _ _ hR => hR)
theorem PropsR.sub {S S' : Nat → Prop} {w : World} {v : Value} {ps : List PProp} (h : PropsR S w v ps) (hS : ∀ b, S b → S' b) : PropsR S' w v ps :=
  SlR.sub h hS (fun _ _ _ hR => hR)
/-- only the blocks that are there count -/
theorem PropsR.cut {S : Nat → Prop} {w : World} {v : Value} {ps : List PProp} (h : PropsR S w v ps) : PropsR (fun b => S b ∧ b < w.heap.size) w v ps := by
  obtain ⟨a, cap, rows, hv, hl, hc, hr, hR1, h⟩ := h
  refine ⟨a, cap, rows, hv, hl, hc, hr, hR1, fun h0 => ?_⟩
  obtain ⟨b, off, ha, hS, hb, hcell⟩ := h h0
  exact ⟨b, off, ha, ⟨hS, hb⟩, hb, hcell⟩
theorem RNode.mod {F S : Nat → Prop} {w w' : World} {x : PNode} {r : List Value} (h : RNode S w x r) (g : Mod F w w') (hd : ∀ b, S b → ¬ F b) : RNode S w' x r :=
  let ⟨pv, hr, hp⟩ := h
  ⟨pv, hr, hp.mod g hd⟩
theorem REdge.mod {F S : Nat → Prop} {w w' : World} {x : PEdge} {r : List Value} (h : REdge S w x r) (g : Mod F w w') (hd : ∀ b, S b → ¬ F b) : REdge S w' x r :=
  let ⟨pv, hr, hp⟩ := h
  ⟨pv, hr, hp.mod g hd⟩
theorem RNode.sub {S S' : Nat → Prop} {w : World} {x : PNode} {r : List Value} (h : RNode S w x r) (hS : ∀ b, S b → S' b) : RNode S' w x r :=
  let ⟨pv, hr, hp⟩ := h
  ⟨pv, hr, hp.sub hS⟩
theorem REdge.sub {S S' : Nat → Prop} {w : World} {x : PEdge} {r : List Value} (h : REdge S w x r) (hS : ∀ b, S b → S' b) : REdge S' w x r :=
  let ⟨pv, hr, hp⟩ := h
  ⟨pv, hr, hp.sub hS⟩
theorem NodesO.nil (F : Nat → Prop) (w : World) : NodesO F w (.slice none 0 0) [] := ⟨fun _ => False, none, by simp, by simp, OwnL.nil _ _ _ _⟩
theorem EdgesO.nil (F : Nat → Prop) (w : World) : EdgesO F w (.slice none 0 0) [] := ⟨fun _ => False, none, by simp, by simp, OwnL.nil _ _ _ _⟩
theorem NodesO.grow {F : Nat → Prop} {w w' : World} {v : Value} {l : List PNode} (h : NodesO F w v l) (g : Grow w w') : NodesO F w' v l := by
  obtain ⟨S, ob, h1, h2, h3⟩ := h
  refine ⟨S, ob, fun b hb => ⟨(h1 b hb).1, Nat.lt_of_lt_of_le (h1 b hb).2 g.size⟩, h2, h3.keep (fun k hk => ?_) (fun x r _ hR => hR.mod (Mod.of_grow (F := fun _ => False) g) (fun _ _ => id))⟩
  obtain ⟨rows, _, _, h4⟩ := h3
  exact g.heapEq (h4.lt k hk)
theorem EdgesO.grow {F : Nat → Prop} {w w' : World} {v : Value} {l : List PEdge} (h : EdgesO F w v l) (g : Grow w w') : EdgesO F w' v l := by
  obtain ⟨S, ob, h1, h2, h3⟩ := h
  refine ⟨S, ob, fun b hb => ⟨(h1 b hb).1, Nat.lt_of_lt_of_le (h1 b hb).2 g.size⟩, h2, h3.keep (fun k hk => ?_) (fun x r _ hR => hR.mod (Mod.of_grow (F := fun _ => False) g) (fun _ _ => id))⟩
  obtain ⟨rows, _, _, h4⟩ := h3
  exact g.heapEq (h4.lt k hk)
theorem NodesO.toR {F : Nat → Prop} {w : World} {v : Value} {l : List PNode} (h : NodesO F w v l) : NodesR F w v l := by
  obtain ⟨S, ob, h1, h2, h3⟩ := h
  exact SlR.sub (h3.toSl (S := F) (fun g hg => (h2 g hg).1)) (fun _ h => h) (fun x r _ hR => hR.sub (fun b hb => (h1 b hb).1))
theorem EdgesO.toR {F : Nat → Prop} {w : World} {v : Value} {l : List PEdge} (h : EdgesO F w v l) : EdgesR F w v l := by
  obtain ⟨S, ob, h1, h2, h3⟩ := h
  exact SlR.sub (h3.toSl (S := F) (fun g hg => (h2 g hg).1)) (fun _ h => h) (fun x r _ hR => hR.sub (fun b hb => (h1 b hb).1))

theorem PropsR.rd {S : Nat → Prop} {w : World} {v : Value} {ps : List PProp} (h : PropsR S w v ps) : Rd w 4 v ps.length (ps.map PProp.cells).flatten := by
  obtain ⟨a, cap, rows, hv, hl, hc, hr, hR1, h⟩ := h
  have hrows : rows = ps.map PProp.cells := by
    apply List.ext_getElem (by simp [hr])
    intro k h1 h2
    rw [List.getElem_map]
    exact hR1 k _ _ (List.getElem?_eq_getElem (by omega)) (List.getElem?_eq_getElem h1)
  have hfl : (ps.map PProp.cells).flatten.length = ps.length * 4 := by
    simp [List.length_flatten, Function.comp_def, List.map_const', List.sum_replicate_nat]
  refine ⟨hfl, a, cap, hv, ?_⟩
  by_cases h0 : ps.length = 0
  · exact .inl h0
  · obtain ⟨b, off, ha, hS, hb, hcell⟩ := h (by omega)
    refine .inr ⟨_, ha, fun j u hu => ?_⟩
    have hj : j < ps.length * 4 := by rw [← hfl]; exact (List.getElem?_eq_some_iff.1 hu).1
    have hk : j / 4 < ps.length := by omega
    have hrow : rows[j / 4]? = some (ps[j / 4]).cells := by rw [hrows]; simp [List.getElem?_map, List.getElem?_eq_getElem hk]
    have hrl : (ps[j / 4]).cells.length = 4 := rfl
    have hc1 : (ps[j / 4]).cells[j % 4]? = some ((ps[j / 4]).cells[j % 4]'(by rw [hrl]; omega)) := List.getElem?_eq_getElem _
    have hf := flatten_at (ps.map PProp.cells) 4 (j / 4) (j % 4) _ _ (by simp) (by rw [← hrows]; exact hrow) hc1
    have e : j / 4 * 4 + j % 4 = j := by omega
    rw [e, hu] at hf
    have hcc := hcell _ _ (j % 4) _ hrow hc1
    rw [Nat.add_assoc, e] at hcc
    rw [hf]
    unfold Addr.add
    split
    · rename_i hz; subst hz; simpa using hcc
    · exact hcc
theorem Rd.grow {w w' : World} {sz m : Nat} {x : Value} {news : List Value} (h : Rd w sz x m news) (g : Grow w w') : Rd w' sz x m news := by
  obtain ⟨h1, oa, cap, hx, h2⟩ := h
  refine ⟨h1, oa, cap, hx, h2.imp id (fun ⟨a, ha, hc⟩ => ⟨a, ha, fun j u hu => ?_⟩)⟩
  have h3 := hc j u hu
  rw [← h3]
  exact g.cell (World.block_lt_of_cell? w _ h3)
/-- a new row of properties -/
theorem OwnS.props {w : World} {v : Value} {ps : List PProp} {ob : Option Nat} (h : OwnS w 123 4 v ps.length (ps.map PProp.cells).flatten ob) : PropsR (fun b => ob = some b) w v ps := by
  have h2 : OwnL w 123 4 RProp v ps ob := ⟨ps.map PProp.cells, by simp, fun k x r hx hr => by
    rw [List.getElem?_map, hx] at hr
    simp only [Option.map_some, Option.some.injEq] at hr
    subst hr
    exact ⟨rfl, rfl⟩, h⟩
  exact h2.toSl (fun g hg => hg)

theorem NodesO.open {F : Nat → Prop} {w w' : World} {v : Value} {l : List PNode} (h : NodesO F w v l) (g : Grow w w') :
    ∃ (S : Nat → Prop) (ob : Option Nat) (rows : List (List Value)), (∀ b, S b → F b ∧ b < w.heap.size) ∧ (∀ x, ob = some x → F x ∧ ¬ S x ∧ x < w.heap.size) ∧ rows.length = l.length ∧
      (∀ (k : Nat) x r, l[k]? = some x → rows[k]? = some r → RNode S w' x r ∧ r.length = 3) ∧ OwnS w' 94 3 v l.length rows.flatten ob := by
  obtain ⟨S, ob, h1, h2, rows, h3, h4, h5⟩ := h
  exact ⟨S, ob, rows, h1, fun x hx => ⟨(h2 x hx).1, (h2 x hx).2, h5.lt x hx⟩, h3, fun k x r a b => ⟨(h4 k x r a b).1.mod (Mod.of_grow (F := fun _ => False) g) (fun _ _ => id), (h4 k x r a b).2⟩, h5.grow g⟩
theorem EdgesO.open {F : Nat → Prop} {w w' : World} {v : Value} {l : List PEdge} (h : EdgesO F w v l) (g : Grow w w') :
    ∃ (S : Nat → Prop) (ob : Option Nat) (rows : List (List Value)), (∀ b, S b → F b ∧ b < w.heap.size) ∧ (∀ x, ob = some x → F x ∧ ¬ S x ∧ x < w.heap.size) ∧ rows.length = l.length ∧
      (∀ (k : Nat) x r, l[k]? = some x → rows[k]? = some r → REdge S w' x r ∧ r.length = 5) ∧ OwnS w' 98 5 v l.length rows.flatten ob := by
  obtain ⟨S, ob, h1, h2, rows, h3, h4, h5⟩ := h
  exact ⟨S, ob, rows, h1, fun x hx => ⟨(h2 x hx).1, (h2 x hx).2, h5.lt x hx⟩, h3, fun k x r a b => ⟨(h4 k x r a b).1.mod (Mod.of_grow (F := fun _ => False) g) (fun _ _ => id), (h4 k x r a b).2⟩, h5.grow g⟩

theorem NodesO.close {F S SP : Nat → Prop} {w w' : World} {v' pv : Value} {l : List PNode} {ob ob' : Option Nat} {rows : List (List Value)} {x : PNode}
    (hS : ∀ b, S b → F b ∧ b < w.heap.size) (hob : ∀ g, ob = some g → F g ∧ ¬ S g) (h1 : rows.length = l.length)
    (h2 : ∀ (k : Nat) x r, l[k]? = some x → rows[k]? = some r → RNode S w x r ∧ r.length = 3) (h3 : ∃ v, OwnS w 94 3 v l.length rows.flatten ob)
    (hp : PropsR SP w pv x.props) (hSP : ∀ b, SP b → F b ∧ b < w.heap.size) (hd : ∀ g, ob = some g → ¬ SP g) (hF : ∀ g, w.heap.size ≤ g → F g)
    (hown : OwnS w' 94 3 v' (l.length + 1) (rows.flatten ++ [.int .i64 x.id, .string x.typ, pv]) ob') (hm : Mod (fun k => ob = some k) w w')
    (hob' : ob' = ob ∨ ∃ g, ob' = some g ∧ w.heap.size ≤ g) : NodesO F w' v' (l ++ [x]) := by
  obtain ⟨v, h3⟩ := h3
  refine ⟨fun b => S b ∨ SP b, ob', fun b hb => ?_, fun g hg => ?_, ?_⟩
  · have hs := hm.size
    rcases hb with hb | hb
    · exact ⟨(hS b hb).1, by have := (hS b hb).2; omega⟩
    · exact ⟨(hSP b hb).1, by have := (hSP b hb).2; omega⟩
  · rcases hob' with h | ⟨g', h, hge⟩
    · rw [h] at hg
      exact ⟨(hob g hg).1, fun h' => h'.elim (hob g hg).2 (hd g hg)⟩
    · rw [h] at hg; cases hg
      exact ⟨hF _ hge, fun h' => h'.elim (fun h'' => by have := (hS _ h'').2; omega) (fun h'' => by have := (hSP _ h'').2; omega)⟩
  · have hL : OwnL w 94 3 (RNode S w) v l ob := ⟨rows, h1, h2, h3⟩
    refine ⟨rows ++ [[.int .i64 x.id, .string x.typ, pv]], by simp [h1], fun k y r hk hk' => ?_, by simpa using hown⟩
    by_cases hlt : k < l.length
    · rw [List.getElem?_append_left hlt] at hk
      rw [List.getElem?_append_left (by omega)] at hk'
      obtain ⟨a, b⟩ := h2 k y r hk hk'
      exact ⟨(a.mod hm (fun b hb hh => (hob b hh).2 hb)).sub (fun _ h => .inl h), b⟩
    · rw [List.getElem?_append_right (by omega)] at hk
      rw [List.getElem?_append_right (by omega), h1] at hk'
      have e : k - l.length = 0 := by have := (List.getElem?_eq_some_iff.1 hk).1; simp at this; omega
      rw [e] at hk hk'
      simp at hk hk'
      subst hk; subst hk'
      exact ⟨⟨pv, rfl, (hp.mod hm (fun b hb hh => hd b hh hb)).sub (fun _ h => .inr h)⟩, rfl⟩
theorem EdgesO.close {F S SP : Nat → Prop} {w w' : World} {v' pv : Value} {l : List PEdge} {ob ob' : Option Nat} {rows : List (List Value)} {x : PEdge}
    (hS : ∀ b, S b → F b ∧ b < w.heap.size) (hob : ∀ g, ob = some g → F g ∧ ¬ S g) (h1 : rows.length = l.length)
    (h2 : ∀ (k : Nat) x r, l[k]? = some x → rows[k]? = some r → REdge S w x r ∧ r.length = 5) (h3 : ∃ v, OwnS w 98 5 v l.length rows.flatten ob)
    (hp : PropsR SP w pv x.props) (hSP : ∀ b, SP b → F b ∧ b < w.heap.size) (hd : ∀ g, ob = some g → ¬ SP g) (hF : ∀ g, w.heap.size ≤ g → F g)
    (hown : OwnS w' 98 5 v' (l.length + 1) (rows.flatten ++ [.int .i64 x.id, .string x.typ, .int .i64 x.from_, .int .i64 x.to_, pv]) ob') (hm : Mod (fun k => ob = some k) w w')
    (hob' : ob' = ob ∨ ∃ g, ob' = some g ∧ w.heap.size ≤ g) : EdgesO F w' v' (l ++ [x]) := by
  obtain ⟨v, h3⟩ := h3
  refine ⟨fun b => S b ∨ SP b, ob', fun b hb => ?_, fun g hg => ?_, ?_⟩
  · have hs := hm.size
    rcases hb with hb | hb
    · exact ⟨(hS b hb).1, by have := (hS b hb).2; omega⟩
    · exact ⟨(hSP b hb).1, by have := (hSP b hb).2; omega⟩
  · rcases hob' with h | ⟨g', h, hge⟩
    · rw [h] at hg
      exact ⟨(hob g hg).1, fun h' => h'.elim (hob g hg).2 (hd g hg)⟩
    · rw [h] at hg; cases hg
      exact ⟨hF _ hge, fun h' => h'.elim (fun h'' => by have := (hS _ h'').2; omega) (fun h'' => by have := (hSP _ h'').2; omega)⟩
  · have hL : OwnL w 98 5 (REdge S w) v l ob := ⟨rows, h1, h2, h3⟩
    refine ⟨rows ++ [[.int .i64 x.id, .string x.typ, .int .i64 x.from_, .int .i64 x.to_, pv]], by simp [h1], fun k y r hk hk' => ?_, by simpa using hown⟩
    by_cases hlt : k < l.length
    · rw [List.getElem?_append_left hlt] at hk
      rw [List.getElem?_append_left (by omega)] at hk'
      obtain ⟨a, b⟩ := h2 k y r hk hk'
      exact ⟨(a.mod hm (fun b hb hh => (hob b hh).2 hb)).sub (fun _ h => .inl h), b⟩
    · rw [List.getElem?_append_right (by omega)] at hk
      rw [List.getElem?_append_right (by omega), h1] at hk'
      have e : k - l.length = 0 := by have := (List.getElem?_eq_some_iff.1 hk).1; simp at this; omega
      rw [e] at hk hk'
      simp at hk hk'
      subst hk; subst hk'
      exact ⟨⟨pv, rfl, (hp.mod hm (fun b hb hh => hd b hh hb)).sub (fun _ h => .inr h)⟩, rfl⟩
end Go.Hg

namespace Go.Hg
open Go.RowKit Go.Proofs

structure PRule where
  id : Int
  kind : Int
  typ : ByteArray
  name : ByteArray
  from_ : ByteArray
  to_ : ByteArray
  n : Int
  state : Int
deriving DecidableEq
structure PIndex where
  typ : ByteArray
  name : ByteArray
deriving DecidableEq
structure PCat where
  nodes : List ByteArray
  edges : List ByteArray
  rules : List PRule
  indexes : List PIndex
  nextRule : Int
deriving DecidableEq
def RStr (s : ByteArray) (r : List Value) : Prop := r = [.string s]
def RRule (x : PRule) (r : List Value) : Prop := r = [.int .i64 x.id, .int .i64 x.kind, .string x.typ, .string x.name, .string x.from_, .string x.to_, .int .i64 x.n, .int .i64 x.state]
abbrev PRule.args (x : PRule) : Value := .agg #[.int .i64 x.id, .int .i64 x.kind, .string x.typ, .string x.name, .string x.from_, .string x.to_, .int .i64 x.n, .int .i64 x.state]
def RIndex (x : PIndex) (r : List Value) : Prop := r = [.string x.typ, .string x.name]
abbrev StrsR (S : Nat → Prop) (w : World) (v : Value) (l : List ByteArray) : Prop := SlR S w 1 RStr v l
abbrev RulesR (S : Nat → Prop) (w : World) (v : Value) (l : List PRule) : Prop := SlR S w 8 RRule v l
abbrev IndexesR (S : Nat → Prop) (w : World) (v : Value) (l : List PIndex) : Prop := SlR S w 2 RIndex v l
/-- a catalog's five cells -/
def CatR (S : Nat → Prop) (w : World) (nv ev rv iv : Value) (c : PCat) : Prop := StrsR S w nv c.nodes ∧ StrsR S w ev c.edges ∧ RulesR S w rv c.rules ∧ IndexesR S w iv c.indexes
abbrev PCat.arg (c : PCat) (nv ev rv iv : Value) : Value := .agg #[nv, ev, rv, iv, .int .i64 c.nextRule]
theorem SlR.growS {α : Type} {S : Nat → Prop} {w w' : World} {sz : Nat} {R : α → List Value → Prop} {v : Value} {l : List α} (h : SlR S w sz R v l) (g : Grow w w') : SlR S w' sz R v l :=
  SlR.keep h (fun _ _ hb => g.heapEq hb) g.size (fun _ _ _ hR => hR)
theorem SlR.modS {α : Type} {F S : Nat → Prop} {w w' : World} {sz : Nat} {R : α → List Value → Prop} {v : Value} {l : List α} (h : SlR S w sz R v l) (g : Mod F w w') (hd : ∀ b, S b → ¬ F b) : SlR S w' sz R v l :=
  SlR.keep h (fun b hS hb => g.block b hb (hd b hS)) g.size (fun _ _ _ hR => hR)
theorem CatR.grow {S : Nat → Prop} {w w' : World} {nv ev rv iv : Value} {c : PCat} (h : CatR S w nv ev rv iv c) (g : Grow w w') : CatR S w' nv ev rv iv c := ⟨h.1.growS g, h.2.1.growS g, h.2.2.1.growS g, h.2.2.2.growS g⟩
theorem CatR.mod {F S : Nat → Prop} {w w' : World} {nv ev rv iv : Value} {c : PCat} (h : CatR S w nv ev rv iv c) (g : Mod F w w') (hd : ∀ b, S b → ¬ F b) : CatR S w' nv ev rv iv c := ⟨h.1.modS g hd, h.2.1.modS g hd, h.2.2.1.modS g hd, h.2.2.2.modS g hd⟩
/-- the four slices in one form -/
theorem CatR.slices {S : Nat → Prop} {w : World} {nv ev rv iv : Value} {c : PCat} (h : CatR S w nv ev rv iv c) :
    ∃ na nc ea ec ra rc ia ic, nv = .slice na c.nodes.length nc ∧ ev = .slice ea c.edges.length ec ∧ rv = .slice ra c.rules.length rc ∧ iv = .slice ia c.indexes.length ic := by
  obtain ⟨h1, h2, h3, h4⟩ := h
  obtain ⟨na, nc, rfl, _⟩ := SlR.open h1
  obtain ⟨ea, ec, rfl, _⟩ := SlR.open h2
  obtain ⟨ra, rc, rfl, _⟩ := SlR.open h3
  obtain ⟨ia, ic, rfl, _⟩ := SlR.open h4
  exact ⟨_, _, _, _, _, _, _, _, rfl, rfl, rfl, rfl⟩

/-- is a text in a list? -/
def memS (s : ByteArray) (l : List ByteArray) : Bool := l.any fun x => decide (x = s)
theorem memS_true {s : ByteArray} {l : List ByteArray} (h : s ∈ l) : memS s l = true := List.any_eq_true.2 ⟨s, h, by simp⟩
theorem memS_false {s : ByteArray} {l : List ByteArray} (h : s ∉ l) : memS s l = false := List.any_eq_false.2 fun x hx => by simp; intro e; subst e; exact h hx

set_option maxRecDepth 100000 in
set_option maxHeartbeats 1000000 in
theorem indexStr (S : Nat → Prop) (v : Value) (l : List ByteArray) (s : ByteArray) (w : World) (hl : StrsR S w v l) :
    Calls Tryz.prog 211 #[v, .string s] w fun e w' => ∃ r : Int, e = .returned (.int .i64 r) ∧ ((r = -1 ∧ s ∉ l) ∨ (0 ≤ r ∧ s ∈ l)) ∧ w = w' := by
  obtain ⟨aa, ca, rfl, hal, hac, hA⟩ := SlR.open hl
  clear hl
  unfold maxLen at hac
  have HA := Lib.hid hA; clear hA
  go_enter Tryz.func211, Tryz.ntmps211
  go_wp2
  go_loopg [8] l.length (fun g i wr => ∃ k : Nat, k ≤ l.length ∧ g = l.length - k ∧ i = .int .i64 k ∧ s ∉ l.take k ∧ w = wr)
  case atStart => exact ⟨0, by omega, by omega, rfl, by simp, rfl⟩
  case round =>
    obtain ⟨k, hk, rfl, rfl, hall, rfl⟩ := hrel
    have HALL := Lib.hid hall; clear hall
    by_cases hkl : k < l.length
    · obtain ⟨ba, oa, ra, rfl, hSa, hba, hRa, hca⟩ := HA.out k l[k] (List.getElem?_eq_getElem hkl)
      have a0 := hca 0 (.string l[k]) (by unfold RStr at hRa; rw [hRa]; rfl)
      simp only [Nat.mul_one, Nat.add_zero] at a0
      clear hca hRa hSa hba
      have HM := Lib.hid (List.getElem_mem hkl)
      have HT := Lib.hid (show l.take (k + 1) = l.take k ++ [l[k]] from List.take_succ_eq_append_getElem hkl)
      generalize l[k] = x at *
      cases hn : decide (s = x)
      all_goals go_wp2
      · go_roundg (l.length - (k + 1))
        case measure => omega
        case rel => exact ⟨k + 1, by omega, rfl, by go_num, by rw [HT.out]; intro h; rcases List.mem_append.1 h with h | h; exact HALL.out h; simp at h; exact of_decide_eq_false hn h, rfl⟩
      · go_ret
        exact ⟨_, rfl, .inr ⟨by omega, by rw [of_decide_eq_true hn]; exact HM.out⟩, rfl⟩
    · have HX := Lib.hid (show l.take k = l from List.take_of_length_le (by omega))
      go_wp2
      go_ret
      exact ⟨_, rfl, .inl ⟨rfl, by rw [← HX.out]; exact HALL.out⟩, rfl⟩

set_option maxHeartbeats 400000 in
theorem containsStr (S : Nat → Prop) (v : Value) (l : List ByteArray) (s : ByteArray) (w : World) (hl : StrsR S w v l) :
    Calls Tryz.prog 185 #[v, .string s] w fun e w' => e = .returned (.bool (memS s l)) ∧ w = w' := by
  have HL := Lib.hid hl
  obtain ⟨_, _, rfl, _⟩ := SlR.open hl
  clear hl
  go_enter Tryz.func185, Tryz.ntmps185
  go_wp2_with fail
  refine (indexStr S _ l s _ HL.out).mono ?_
  rintro e w2 ⟨r, rfl, hr, rfl⟩
  rcases hr with ⟨rfl, hm⟩ | ⟨h0, hm⟩
  · have HM := Lib.hid hm; clear hm
    go_wp2
    go_ret
    exact ⟨by rw [memS_false HM.out]; rfl, rfl⟩
  · have HM := Lib.hid hm; clear hm
    have h0' : decide (0 ≤ r) = true := by simp [h0]
    go_wp2
    go_ret
    exact ⟨by rw [memS_true HM.out]; simp, rfl⟩

/-- the types of a kind -/
def PCat.typesOf (c : PCat) (kind : Int) : List ByteArray := if kind = 1 then c.nodes else if kind = 2 then c.edges else []

set_option maxHeartbeats 400000 in
theorem schemaHas (S : Nat → Prop) (nv ev rv iv : Value) (c : PCat) (kind : Int) (s : ByteArray) (w : World) (hc : CatR S w nv ev rv iv c) :
    Calls Tryz.prog 151 #[c.arg nv ev rv iv, .int .i64 kind, .string s] w fun e w' => e = .returned (.bool (memS s (c.typesOf kind))) ∧ Grow w w' := by
  have HC := Lib.hid hc
  obtain ⟨na, nc, ea, ec, ra, rc, ia, ic, rfl, rfl, rfl, rfl⟩ := hc.slices
  have HG := Lib.hid (show ∀ o, Grow w (w.alloc o) from fun o => (Grow.rfl' w).allocd o)
  clear hc
  by_cases h1 : kind = 1
  · subst h1
    go_enter Tryz.func151, Tryz.ntmps151
    go_wp2_with (first | (go_at_call 184; go_in) | (go_at_call 185; go_must (refine (containsStr S _ c.nodes s _ (HC.out.grow (HG.out _)).1).mono ?_); rintro e w2 ⟨rfl, rfl⟩))
    go_ret
    exact ⟨rfl, HG.out _⟩
  · by_cases h2 : kind = 2
    · subst h2
      go_enter Tryz.func151, Tryz.ntmps151
      go_wp2_with (first | (go_at_call 184; go_in) | (go_at_call 185; go_must (refine (containsStr S _ c.edges s _ (HC.out.grow (HG.out _)).2.1).mono ?_); rintro e w2 ⟨rfl, rfl⟩))
      go_ret
      exact ⟨rfl, HG.out _⟩
    · have HX := Lib.hid (show c.typesOf kind = [] by unfold PCat.typesOf; rw [if_neg h1, if_neg h2])
      have h1' : (kind == 1) = false := by simpa using h1
      have h2' : (kind == 2) = false := by simpa using h2
      go_enter Tryz.func151, Tryz.ntmps151
      go_wp2
      go_ret
      exact ⟨by rw [HX.out]; rfl, HG.out _⟩

set_option maxHeartbeats 400000 in
theorem refList (S : Nat → Prop) (nv ev rv iv : Value) (c : PCat) (kind : Int) (w : World) (hc : CatR S w nv ev rv iv c) :
    Calls Tryz.prog 172 #[c.arg nv ev rv iv, .int .i64 kind] w fun e w' => ∃ v, e = .returned v ∧ StrsR S w' v (c.typesOf kind) ∧ Grow w w' := by
  have HC := Lib.hid hc
  obtain ⟨na, nc, ea, ec, ra, rc, ia, ic, rfl, rfl, rfl, rfl⟩ := hc.slices
  have HG := Lib.hid (show ∀ o, Grow w (w.alloc o) from fun o => (Grow.rfl' w).allocd o)
  clear hc
  have h1' : ∀ h : kind = 1, (kind == 1) = true := fun h => by simp [h]
  by_cases h1 : kind = 1
  · subst h1
    clear h1'
    go_enter Tryz.func172, Tryz.ntmps172
    go_wp2
    go_ret
    exact ⟨_, rfl, (HC.out.grow (HG.out _)).1, HG.out _⟩
  · by_cases h2 : kind = 2
    · subst h2
      clear h1'
      go_enter Tryz.func172, Tryz.ntmps172
      go_wp2
      go_ret
      exact ⟨_, rfl, (HC.out.grow (HG.out _)).2.1, HG.out _⟩
    · have HX := Lib.hid (show c.typesOf kind = [] by unfold PCat.typesOf; rw [if_neg h1, if_neg h2])
      have h1' : (kind == 1) = false := by simpa using h1
      have h2' : (kind == 2) = false := by simpa using h2
      go_enter Tryz.func172, Tryz.ntmps172
      go_wp2
      go_ret
      exact ⟨_, rfl, by rw [HX.out]; exact ⟨none, 0, [], rfl, by simp, by simp [maxLen], rfl, by simp, by simp⟩, HG.out _⟩

set_option maxRecDepth 100000 in
set_option maxHeartbeats 1000000 in
theorem refHas (S : Nat → Prop) (nv ev rv iv : Value) (c : PCat) (kind : Int) (s : ByteArray) (w : World) (hc : CatR S w nv ev rv iv c) :
    Calls Tryz.prog 139 #[c.arg nv ev rv iv, .int .i64 kind, .string s] w fun e w' => e = .returned (.bool (memS s (c.typesOf kind))) ∧ Grow w w' := by
  have HC := Lib.hid hc
  obtain ⟨na, nc, ea, ec, ra, rc, ia, ic, rfl, rfl, rfl, rfl⟩ := hc.slices
  have HG := Lib.hid (show ∀ o, Grow w (w.alloc o) from fun o => (Grow.rfl' w).allocd o)
  clear hc
  go_enter Tryz.func139, Tryz.ntmps139
  go_wp2_with fail
  refine (refList S _ _ _ _ c kind _ (HC.out.grow (HG.out _))).mono ?_
  rintro e w2 ⟨v, rfl, hv, hw2⟩
  obtain ⟨l, hll⟩ : ∃ l, c.typesOf kind = l := ⟨_, rfl⟩
  rw [hll] at hv
  have HLL := Lib.hid hll; clear hll
  obtain ⟨aa, ca, rfl, hal, hac, hA⟩ := SlR.open hv
  unfold maxLen at hac
  have HA := Lib.hid hA; have HW2 := Lib.hid ((HG.out _).step hw2); clear hA hv hw2
  go_wp2
  go_loopg [8] l.length (fun g i wr => ∃ k : Nat, k ≤ l.length ∧ g = l.length - k ∧ i = .int .i64 k ∧ s ∉ l.take k ∧ w2 = wr)
  case atStart => exact ⟨0, by omega, by omega, rfl, by simp, rfl⟩
  case round =>
    obtain ⟨k, hk, rfl, rfl, hall, rfl⟩ := hrel
    have HALL := Lib.hid hall; clear hall
    by_cases hkl : k < l.length
    · obtain ⟨ba, oa, ra, rfl, hSa, hba, hRa, hca⟩ := HA.out k l[k] (List.getElem?_eq_getElem hkl)
      have a0 := hca 0 (.string l[k]) (by unfold RStr at hRa; rw [hRa]; rfl)
      simp only [Nat.mul_one, Nat.add_zero] at a0
      clear hca hRa hSa hba
      have HM := Lib.hid (List.getElem_mem hkl)
      have HT := Lib.hid (show l.take (k + 1) = l.take k ++ [l[k]] from List.take_succ_eq_append_getElem hkl)
      generalize l[k] = x at *
      cases hn : decide (x = s)
      all_goals go_wp2
      · go_roundg (l.length - (k + 1))
        case measure => omega
        case rel => exact ⟨k + 1, by omega, rfl, by go_num, by rw [HT.out]; intro h; rcases List.mem_append.1 h with h | h; exact HALL.out h; simp at h; exact of_decide_eq_false hn h.symm, rfl⟩
      · go_ret
        exact ⟨by rw [HLL.out, memS_true (show s ∈ l by rw [← of_decide_eq_true hn]; exact HM.out)]; rfl, HW2.out⟩
    · have HX := Lib.hid (show l.take k = l from List.take_of_length_le (by omega))
      go_wp2
      go_ret
      exact ⟨by rw [HLL.out, memS_false (show s ∉ l by rw [← HX.out]; exact HALL.out)]; rfl, HW2.out⟩
end Go.Hg

namespace Go.Hg
open Go.RowKit Go.Proofs

def LowC (c : Nat) : Prop := 97 ≤ c ∧ c ≤ 122
def RestC (c : Nat) : Prop := (97 ≤ c ∧ c ≤ 122) ∨ (48 ≤ c ∧ c ≤ 57) ∨ c = 95
instance (c : Nat) : Decidable (LowC c) := by unfold LowC; infer_instance
instance (c : Nat) : Decidable (RestC c) := by unfold RestC; infer_instance
/-- a name: a text of 1 to 16 bytes, a small letter, then small letters, digits and low lines -/
def NameOk (s : ByteArray) : Prop := ∃ h : 0 < s.size, s.size ≤ 16 ∧ LowC s[0].toNat ∧ ∀ i, (h : i < s.size) → RestC s[i].toNat
instance (s : ByteArray) : Decidable (NameOk s) := by unfold NameOk; infer_instance
def GoodV (v : PVal) : Prop := (v.kind = 1 ∧ (v.n = 0 ∨ v.n = 1) ∧ v.s = ByteArray.empty) ∨ (v.kind = 2 ∧ v.s = ByteArray.empty) ∨ (v.kind = 3 ∧ v.n = 0 ∧ v.s.size ≤ 1024)
instance (v : PVal) : Decidable (GoodV v) := by unfold GoodV; infer_instance
def BlankV (v : PVal) : Prop := v.kind = 0 ∧ v.n = 0 ∧ v.s = ByteArray.empty
instance (v : PVal) : Decidable (BlankV v) := by unfold BlankV; infer_instance

theorem u8_lt (c : UInt8) : c.toNat < 256 := c.toNat_lt

set_option maxRecDepth 100000 in
set_option maxHeartbeats 1000000 in
theorem valName (s : ByteArray) (w : World) : Calls Tryz.prog 101 #[.string s] w fun e w' => e = .returned (.bool (decide (NameOk s))) ∧ w' = w := by
  by_cases h0 : s.size = 0
  · have HN := Lib.hid (show ¬ NameOk s from fun ⟨h, _⟩ => by omega)
    go_enter Tryz.func101, Tryz.ntmps101
    go_wp2
    go_ret
    exact ⟨by rw [decide_eq_false HN.out]; rfl, rfl⟩
  · have h0' : 0 < s.size := by omega
    have hs0 : s.toList.isEmpty = false := by
      rw [ByteArray.toList_eq]
      cases h : s.data.toList with
      | nil => have : s.size = 0 := by show s.data.size = 0; rw [← Array.length_toList, h]; rfl
               omega
      | cons => rfl
    clear h0
    by_cases h16 : s.size ≤ 16
    · have hb := u8_lt s[0]
      by_cases hl : LowC s[0].toNat
      · have hl' := hl
        unfold LowC at hl'
        have hx : NameOk s ↔ ∀ i, (h : i < s.size) → RestC s[i].toNat := ⟨fun ⟨_, _, _, h⟩ => h, fun h => ⟨h0', h16, hl, h⟩⟩
        have HX := Lib.hid hx; clear hx hl
        go_enter Tryz.func101, Tryz.ntmps101
        go_wp2
        go_loopg [25] s.size (fun g i wr => ∃ k : Nat, k ≤ s.size ∧ g = s.size - k ∧ i = .int .i64 k ∧ (∀ i, (h : i < s.size) → i < k → RestC s[i].toNat) ∧ w = wr)
        case atStart => exact ⟨0, by omega, by omega, rfl, fun i _ h => by omega, rfl⟩
        case round =>
          obtain ⟨k, hk, rfl, rfl, hall, rfl⟩ := hrel
          have HA := Lib.hid hall; clear hall
          by_cases hlt : k < s.size
          · have HK := Lib.hid (show ¬ RestC s[k].toNat → ¬ NameOk s from fun h hn => h ((HX.out.1 hn) k hlt))
            have HK2 := Lib.hid (show RestC s[k].toNat → ∀ i, (h : i < s.size) → i < k + 1 → RestC s[i].toNat from fun h i hi hik => by
              by_cases e : i = k
              · subst e; exact h
              · exact HA.out i hi (by omega))
            have hbk := u8_lt s[k]
            clear hl' hb
            by_cases hr : RestC s[k].toNat
            · have HR := Lib.hid (HK2.out hr)
              unfold RestC at hr
              clear HK HK2
              go_wp2
              all_goals
                (try simp only [bne_iff_ne, bne_eq_false_iff_eq, ne_eq] at *)
                first
                  | (exfalso; omega)
                  | (go_roundg (s.size - (k + 1))
                     case measure => omega
                     case rel => exact ⟨k + 1, by omega, rfl, by go_num, HR.out, rfl⟩)
            · have HR := Lib.hid (HK.out hr)
              unfold RestC at hr
              clear HK HK2
              go_wp2
              all_goals
                (try simp only [bne_iff_ne, bne_eq_false_iff_eq, ne_eq] at *)
                first
                  | (exfalso; omega)
                  | (go_ret
                     exact ⟨by rw [decide_eq_false HR.out]; rfl, rfl⟩)
          · go_wp2
            go_ret
            exact ⟨by rw [decide_eq_true (HX.out.2 fun i h => HA.out i h (by omega))]; rfl, rfl⟩
      · have HN := Lib.hid (show ¬ NameOk s from fun ⟨_, _, h, _⟩ => hl h)
        unfold LowC at hl
        go_enter Tryz.func101, Tryz.ntmps101
        go_wp2
        all_goals first
          | (go_ret
             exact ⟨by rw [decide_eq_false HN.out]; rfl, rfl⟩)
          | (exfalso; omega)
    · have HN := Lib.hid (show ¬ NameOk s from fun ⟨_, h, _⟩ => h16 h)
      go_enter Tryz.func101, Tryz.ntmps101
      go_wp2
      go_ret
      exact ⟨by rw [decide_eq_false HN.out]; rfl, rfl⟩

set_option maxRecDepth 100000 in
set_option maxHeartbeats 1000000 in
theorem refName (s : ByteArray) (w : World) : Calls Tryz.prog 59 #[.string s] w fun e w' => e = .returned (.bool (decide (NameOk s))) ∧ w' = w := by
  by_cases hs : 1 ≤ s.size ∧ s.size ≤ 16
  · obtain ⟨h0', h16⟩ := hs
    have hx : NameOk s ↔ ∀ i, (h : i < s.size) → RestC s[i].toNat ∧ (i = 0 → LowC s[i].toNat) :=
      ⟨fun ⟨_, _, hl, h⟩ i hi => ⟨h i hi, fun e => by subst e; exact hl⟩, fun h => ⟨h0', h16, (h 0 h0').2 rfl, fun i hi => (h i hi).1⟩⟩
    have HX := Lib.hid hx; clear hx
    go_enter Tryz.func59, Tryz.ntmps59
    go_wp2
    go_loopg [3] s.size (fun g i wr => ∃ k : Nat, k ≤ s.size ∧ g = s.size - k ∧ i = .int .i64 k ∧ (∀ i, (h : i < s.size) → i < k → RestC s[i].toNat ∧ (i = 0 → LowC s[i].toNat)) ∧ w = wr)
    case atStart => exact ⟨0, by omega, by omega, rfl, fun i _ h => by omega, rfl⟩
    case round =>
      obtain ⟨k, hk, rfl, rfl, hall, rfl⟩ := hrel
      have HA := Lib.hid hall; clear hall
      by_cases hlt : k < s.size
      · have HK := Lib.hid (show ¬ (RestC s[k].toNat ∧ (k = 0 → LowC s[k].toNat)) → ¬ NameOk s from fun h hn => h ((HX.out.1 hn) k hlt))
        have HK2 := Lib.hid (show RestC s[k].toNat ∧ (k = 0 → LowC s[k].toNat) → ∀ i, (h : i < s.size) → i < k + 1 → RestC s[i].toNat ∧ (i = 0 → LowC s[i].toNat) from fun h i hi hik => by
          by_cases e : i = k
          · subst e; exact h
          · exact HA.out i hi (by omega))
        have hbk := u8_lt s[k]
        by_cases hr : RestC s[k].toNat ∧ (k = 0 → LowC s[k].toNat)
        · have HR := Lib.hid (HK2.out hr)
          have HQ := Lib.hid hr
          clear HK HK2 hr
          go_wp2
          all_goals
            (try simp only [Bool.not_eq_true', Bool.not_eq_false', decide_eq_true_eq, decide_eq_false_iff_not, beq_iff_eq, beq_eq_false_iff_ne, ne_eq] at *)
            have hq := HQ.out
            unfold RestC LowC at hq
            first
              | (exfalso; omega)
              | (clear hq
                 go_roundg (s.size - (k + 1))
                 case measure => omega
                 case rel => exact ⟨k + 1, by omega, rfl, by go_num, HR.out, rfl⟩)
        · have HR := Lib.hid (HK.out hr)
          have HQ := Lib.hid hr
          clear HK HK2 hr
          go_wp2
          all_goals
            (try simp only [Bool.not_eq_true', Bool.not_eq_false', decide_eq_true_eq, decide_eq_false_iff_not, beq_iff_eq, beq_eq_false_iff_ne, ne_eq] at *)
            have hq := HQ.out
            unfold RestC LowC at hq
            first
              | (exfalso; omega)
              | (clear hq
                 go_ret
                 exact ⟨by rw [decide_eq_false HR.out]; rfl, rfl⟩)
      · go_wp2
        go_ret
        exact ⟨by rw [decide_eq_true (HX.out.2 fun i h => HA.out i h (by omega))]; rfl, rfl⟩
  · have HN := Lib.hid (show ¬ NameOk s from fun ⟨h1, h2, _⟩ => hs ⟨h1, h2⟩)
    go_enter Tryz.func59, Tryz.ntmps59
    go_wp2
    all_goals first
      | (exfalso; omega)
      | (go_ret
         exact ⟨by rw [decide_eq_false HN.out]; rfl, rfl⟩)
end Go.Hg

namespace Go.Hg

def fitE (typ : ByteArray) (e : PEdge) : Bool := decide (typ = ByteArray.empty) || decide (e.typ = typ)
/-- the edges that lead from x, those that lead to y -/
def outsE (E : List PEdge) (typ : ByteArray) (x : Int) : List PEdge := E.filter fun e => fitE typ e && decide (e.from_ = x)
def insE (E : List PEdge) (typ : ByteArray) (y : Int) : List PEdge := E.filter fun e => fitE typ e && decide (e.to_ = y)
def StepE (E : List PEdge) (typ : ByteArray) (x y : Int) : Prop := ∃ e ∈ E, fitE typ e = true ∧ e.from_ = x ∧ e.to_ = y
theorem stepE_outs {E : List PEdge} {typ : ByteArray} {x y : Int} : StepE E typ x y ↔ ∃ e ∈ outsE E typ x, e.to_ = y := by
  simp only [StepE, outsE, List.mem_filter, Bool.and_eq_true, decide_eq_true_eq]
  constructor
  · rintro ⟨e, h1, h2, h3, h4⟩
    exact ⟨e, ⟨h1, h2, h3⟩, h4⟩
  · rintro ⟨e, ⟨h1, h2, h3⟩, h4⟩
    exact ⟨e, h1, h2, h3, h4⟩
theorem stepE_ins {E : List PEdge} {typ : ByteArray} {x y : Int} : StepE E typ x y ↔ ∃ e ∈ insE E typ y, e.from_ = x := by
  simp only [StepE, insE, List.mem_filter, Bool.and_eq_true, decide_eq_true_eq]
  constructor
  · rintro ⟨e, h1, h2, h3, h4⟩
    exact ⟨e, ⟨h1, h2, h4⟩, h3⟩
  · rintro ⟨e, ⟨h1, h2, h3⟩, h4⟩
    exact ⟨e, h1, h2, h4, h3⟩

/-- a list that rises, of all for which p is true -/
def RSet (l : List Int) (p : Int → Prop) : Prop := l.Pairwise (· < ·) ∧ ∀ y, y ∈ l ↔ p y
theorem RSet.same : ∀ {l l' : List Int}, l.Pairwise (· < ·) → l'.Pairwise (· < ·) → (∀ y, y ∈ l ↔ y ∈ l') → l = l'
  | [], [], _, _, _ => rfl
  | [], b :: t, _, _, h => by have := (h b).2 (.head _); cases this
  | a :: s, [], _, _, h => by have := (h a).1 (.head _); cases this
  | a :: s, b :: t, h1, h2, h => by
    rw [List.pairwise_cons] at h1 h2
    have hab : a = b := by
      have ha := (h a).1 (.head _)
      have hb := (h b).2 (.head _)
      rcases List.mem_cons.1 ha with r | ha
      · exact r
      rcases List.mem_cons.1 hb with r | hb
      · exact r.symm
      have := h2.1 a ha
      have := h1.1 b hb
      omega
    subst hab
    refine congrArg (a :: ·) (RSet.same h1.2 h2.2 fun y => ?_)
    constructor
    · intro hy
      have := h1.1 y hy
      rcases List.mem_cons.1 ((h y).1 (.tail _ hy)) with r | r
      · omega
      · exact r
    · intro hy
      have := h2.1 y hy
      rcases List.mem_cons.1 ((h y).2 (.tail _ hy)) with r | r
      · omega
      · exact r
theorem RSet.uniq {l l' : List Int} {p p' : Int → Prop} (h : RSet l p) (h' : RSet l' p') (hp : ∀ y, p y ↔ p' y) : l = l' :=
  RSet.same h.1 h'.1 fun y => by rw [h.2, h'.2, hp]
theorem RSet.congr {l : List Int} {p p' : Int → Prop} (h : RSet l p) (hp : ∀ y, p y ↔ p' y) : RSet l p' := ⟨h.1, fun y => (h.2 y).trans (hp y)⟩
theorem RSet.nil {p : Int → Prop} (hp : ∀ y, ¬ p y) : RSet [] p := ⟨.nil, fun y => by simp [hp]⟩

/-- within n edges -/
def Rch (E : List PEdge) (typ : ByteArray) : Nat → Int → Int → Prop
  | 0, _, _ => False
  | n + 1, x, y => StepE E typ x y ∨ ∃ z, Rch E typ n x z ∧ StepE E typ z y
section
variable {E : List PEdge} {typ : ByteArray}
theorem Rch.succ : ∀ {n : Nat} {x y : Int}, Rch E typ n x y → Rch E typ (n + 1) x y
  | 0, _, _, h => h.elim
  | _ + 1, _, _, .inl h => .inl h
  | _ + 1, _, _, .inr ⟨z, h1, h2⟩ => .inr ⟨z, h1.succ, h2⟩
theorem Rch.mono {n m : Nat} {x y : Int} (h : Rch E typ n x y) (hm : n ≤ m) : Rch E typ m x y := by
  induction m with
  | zero => cases Nat.le_zero.1 hm; exact h
  | succ m ih =>
    rcases Nat.lt_or_ge n (m + 1) with h1 | h1
    · exact (ih (by omega)).succ
    · have : n = m + 1 := by omega
      exact this ▸ h
theorem Rch.stable {n : Nat} {x : Int} (hs : ∀ y, Rch E typ (n + 1) x y → Rch E typ n x y) : ∀ m, n ≤ m → ∀ y, Rch E typ m x y → Rch E typ n x y := by
  intro m hm
  induction m with
  | zero => cases Nat.le_zero.1 hm; exact fun _ h => h
  | succ m ih =>
    rcases Nat.lt_or_ge n (m + 1) with h1 | h1
    · intro y hy
      rcases hy with hy | ⟨z, hz, hy⟩
      · exact hs y (.inl hy)
      · exact hs y (.inr ⟨z, ih (by omega) z hz, hy⟩)
    · have : n = m + 1 := by omega
      exact this ▸ fun _ h => h
theorem Rch.ends : ∀ {n : Nat} {x y : Int}, Rch E typ n x y → ∃ e ∈ E, e.to_ = y
  | _ + 1, _, _, .inl ⟨e, h1, _, _, h4⟩ => ⟨e, h1, h4⟩
  | _ + 1, _, _, .inr ⟨_, _, e, h1, _, _, h4⟩ => ⟨e, h1, h4⟩
theorem Rch.from : ∀ {n : Nat} {x y : Int}, Rch E typ n x y → ∃ e ∈ E, e.from_ = x
  | _ + 1, _, _, .inl ⟨e, h1, _, h3, _⟩ => ⟨e, h1, h3⟩
  | _ + 1, _, _, .inr ⟨_, h, _⟩ => h.from

/-- as many different ones as there are edges, at most -/
theorem nodup_le {α β : Type} [DecidableEq β] (f : α → β) : ∀ (E : List α) (l : List β), l.Nodup → (∀ y ∈ l, ∃ e ∈ E, f e = y) → l.length ≤ E.length
  | [], [], _, _ => Nat.le_refl _
  | [], y :: _, _, h => by obtain ⟨e, he, _⟩ := h y (.head _); cases he
  | e :: t, l, hn, h => by
    have h1 := nodup_le f t (l.erase (f e)) (hn.erase _) (fun y hy => by
      obtain ⟨hne, hy⟩ := (hn.mem_erase_iff).1 hy
      obtain ⟨e', he', rfl⟩ := h y hy
      rcases List.mem_cons.1 he' with rfl | he'
      · exact absurd rfl hne
      · exact ⟨e', he', rfl⟩)
    have h2 : l.length ≤ (l.erase (f e)).length + 1 := by
      rw [List.length_erase]
      split <;> omega
    simp only [List.length_cons]
    omega

/-- a round on its way: nx are new ones; j of those in r are gone through, and the edges `seen` of the next one -/
structure FrI (E : List PEdge) (typ : ByteArray) (M nx r : List Int) (j : Nat) (seen : List PEdge) : Prop where
  nodup : (M ++ nx).Nodup
  new : ∀ y ∈ nx, ∃ x ∈ r, StepE E typ x y
  gone : ∀ x ∈ r.take j, ∀ y, StepE E typ x y → y ∈ M ∨ y ∈ nx
  seen : ∀ e ∈ seen, e.to_ ∈ M ∨ e.to_ ∈ nx
  ends : ∀ y ∈ M ++ nx, ∃ e ∈ E, e.to_ = y
theorem FrI.start {M r : List Int} (h : M.Nodup) (he : ∀ y ∈ M, ∃ e ∈ E, e.to_ = y) : FrI E typ M [] r 0 [] := ⟨by simpa using h, by simp, by simp, by simp, by simpa using he⟩
theorem FrI.skip {M nx r : List Int} {j : Nat} {seen : List PEdge} (h : FrI E typ M nx r j seen) {e : PEdge} (he : e.to_ ∈ M ∨ e.to_ ∈ nx) : FrI E typ M nx r j (seen ++ [e]) :=
  ⟨h.nodup, h.new, h.gone, fun x hx => by
    rcases List.mem_append.1 hx with hx | hx
    · exact h.seen x hx
    · rw [List.mem_singleton.1 hx]; exact he, h.ends⟩
theorem FrI.add {M nx r : List Int} {j : Nat} {seen : List PEdge} (h : FrI E typ M nx r j seen) {e : PEdge} {x : Int} (hx : r[j]? = some x) (he : e ∈ outsE E typ x) (hn : ¬ (e.to_ ∈ M ∨ e.to_ ∈ nx)) :
    FrI E typ M (nx ++ [e.to_]) r j (seen ++ [e]) := by
  have hin : ∀ y, y ∈ nx → y ∈ nx ++ [e.to_] := fun y hy => List.mem_append_left _ hy
  refine ⟨?_, ?_, fun x hx y hs => (h.gone x hx y hs).imp id (hin y), ?_, ?_⟩
  · rw [← List.append_assoc]
    refine List.nodup_append.2 ⟨h.nodup, by simp, ?_⟩
    intro a ha b hb
    rw [List.mem_singleton] at hb
    subst hb
    rintro rfl
    exact hn (List.mem_append.1 ha)
  · intro y hy
    rcases List.mem_append.1 hy with hy | hy
    · exact h.new y hy
    · rw [List.mem_singleton.1 hy]
      exact ⟨x, List.mem_of_getElem? hx, stepE_outs.2 ⟨e, he, rfl⟩⟩
  · intro e' he'
    rcases List.mem_append.1 he' with he' | he'
    · exact (h.seen e' he').imp id (hin _)
    · rw [List.mem_singleton.1 he']; exact .inr (by simp)
  · intro y hy
    rw [← List.append_assoc] at hy
    rcases List.mem_append.1 hy with hy | hy
    · exact h.ends y hy
    · rw [List.mem_singleton.1 hy]
      exact ⟨e, (List.mem_filter.1 he).1, rfl⟩
theorem FrI.next {M nx r : List Int} {j : Nat} {x : Int} (h : FrI E typ M nx r j (outsE E typ x)) (hx : r[j]? = some x) : FrI E typ M nx r (j + 1) [] := by
  refine ⟨h.nodup, h.new, ?_, by simp, h.ends⟩
  intro z hz y hs
  rw [List.take_add_one, hx] at hz
  rcases List.mem_append.1 hz with hz | hz
  · exact h.gone z hz y hs
  · obtain rfl : z = x := by simpa using hz
    obtain ⟨e, he, rfl⟩ := stepE_outs.1 hs
    exact h.seen e he
theorem FrI.len {M nx r : List Int} {j : Nat} {seen : List PEdge} (h : FrI E typ M nx r j seen) : M.length + nx.length ≤ E.length := by
  have := nodup_le (fun e : PEdge => e.to_) E _ h.nodup h.ends
  simpa using this

/-- behind k rounds -/
structure OutI (E : List PEdge) (typ : ByteArray) (id : Int) (M r : List Int) (k : Nat) : Prop where
  nodup : M.Nodup
  mem : ∀ y, y ∈ M ↔ Rch E typ k id y
  front : ∀ y ∈ r, Rch E typ k id y ∨ y = id
  shut : ∀ y, Rch E typ k id y ∨ y = id → y ∈ r ∨ ∀ z, StepE E typ y z → z ∈ M
theorem OutI.start (id : Int) : OutI E typ id [] [id] 0 := ⟨.nil, by simp [Rch], by simp, by simp [Rch]⟩
theorem OutI.ends {id : Int} {M r : List Int} {k : Nat} (h : OutI E typ id M r k) : ∀ y ∈ M, ∃ e ∈ E, e.to_ = y := fun y hy => ((h.mem y).1 hy).ends
theorem OutI.next {id : Int} {M nx r : List Int} {k : Nat} (h : OutI E typ id M r k) (hf : FrI E typ M nx r r.length []) : OutI E typ id (M ++ nx) nx (k + 1) := by
  have hg : ∀ x ∈ r, ∀ y, StepE E typ x y → y ∈ M ∨ y ∈ nx := by
    have := hf.gone
    rwa [List.take_length] at this
  have hm : ∀ y, y ∈ M ++ nx ↔ Rch E typ (k + 1) id y := by
    intro y
    constructor
    · intro hy
      rcases List.mem_append.1 hy with hy | hy
      · exact ((h.mem y).1 hy).succ
      · obtain ⟨x, hx, hs⟩ := hf.new y hy
        rcases h.front x hx with hr | rfl
        · exact .inr ⟨x, hr, hs⟩
        · exact .inl hs
    · intro hy
      have key : ∀ x, Rch E typ k id x ∨ x = id → StepE E typ x y → y ∈ M ++ nx := by
        intro x hx hs
        rcases h.shut x hx with hr | hr
        · exact List.mem_append.2 (hg x hr y hs)
        · exact List.mem_append_left _ (hr y hs)
      rcases hy with hs | ⟨z, hz, hs⟩
      · exact key id (.inr rfl) hs
      · exact key z (.inl hz) hs
  refine ⟨hf.nodup, hm, fun y hy => .inl ((hm y).1 (List.mem_append_right _ hy)), ?_⟩
  intro y hy
  by_cases hn : y ∈ nx
  · exact .inl hn
  right
  intro z hs
  have hy' : Rch E typ k id y ∨ y = id := by
    rcases hy with hy | hy
    · rcases List.mem_append.1 ((hm y).2 hy) with r | r
      · exact .inl ((h.mem y).1 r)
      · exact absurd r hn
    · exact .inr hy
  rcases h.shut y hy' with hr | hr
  · exact List.mem_append.2 (hg y hr z hs)
  · exact List.mem_append_left _ (hr z hs)
theorem OutI.done {id : Int} {M r : List Int} {k m : Nat} (h : OutI E typ id M r k) (hf : FrI E typ M [] r r.length []) (hm : k ≤ m) (y : Int) : y ∈ M ↔ Rch E typ m id y := by
  have h1 := h.next hf
  rw [List.append_nil] at h1
  rw [h.mem]
  exact ⟨fun hy => hy.mono hm, Rch.stable (fun y hy => (h.mem y).1 ((h1.mem y).2 hy)) m hm y⟩

/-- by just n edges -/
def Wlk (E : List PEdge) (typ : ByteArray) (t : Int) : Nat → Int → Prop
  | 0, x => x = t
  | n + 1, x => ∃ z, StepE E typ x z ∧ Wlk E typ t n z
def Dst (E : List PEdge) (typ : ByteArray) (t : Int) (n : Nat) (x : Int) : Prop := Wlk E typ t n x ∧ ∀ m, m < n → ¬ Wlk E typ t m x
theorem Dst.uniq {t x : Int} {n m : Nat} (h : Dst E typ t n x) (h' : Dst E typ t m x) : n = m := by
  rcases Nat.lt_trichotomy n m with r | r | r
  · exact absurd h.1 (h'.2 n r)
  · exact r
  · exact absurd h'.1 (h.2 m r)
theorem Wlk.dst {t x : Int} {n : Nat} (h : Wlk E typ t n x) : ∃ d, d ≤ n ∧ Dst E typ t d x := by
  induction n using Nat.strongRecOn with
  | ind n ih =>
    by_cases hm : ∃ m, m < n ∧ Wlk E typ t m x
    · obtain ⟨m, hm, hw⟩ := hm
      obtain ⟨d, hd, h⟩ := ih m hm hw
      exact ⟨d, by omega, h⟩
    · exact ⟨n, Nat.le_refl _, h, fun m hlt hw => hm ⟨m, hlt, hw⟩⟩
theorem Dst.zero {t x : Int} : Dst E typ t 0 x ↔ x = t := ⟨fun h => h.1, fun h => ⟨h, fun _ hm => by omega⟩⟩
/-- from a distance one step goes nearer -/
theorem Dst.step {t x : Int} {n : Nat} (h : Dst E typ t (n + 1) x) : ∃ z, StepE E typ x z ∧ Dst E typ t n z := by
  obtain ⟨⟨z, hs, hw⟩, hn⟩ := h
  refine ⟨z, hs, hw, fun m hm hw' => hn (m + 1) (by omega) ⟨z, hs, hw'⟩⟩
theorem Rch.wlk : ∀ {n : Nat} {x y : Int}, Rch E typ n x y → ∃ d, 1 ≤ d ∧ d ≤ n ∧ Wlk E typ y d x := by
  have snoc : ∀ (d : Nat) (x z y : Int), Wlk E typ z d x → StepE E typ z y → Wlk E typ y (d + 1) x := by
    intro d
    induction d with
    | zero => rintro x z y rfl hs; exact ⟨y, hs, rfl⟩
    | succ d ih => rintro x z y ⟨u, h1, h2⟩ hs; exact ⟨u, h1, ih u z y h2 hs⟩
  intro n
  induction n with
  | zero => intro x y h; exact h.elim
  | succ n ih =>
    rintro x y (h | ⟨z, h1, h2⟩)
    · exact ⟨1, by omega, by omega, y, h, rfl⟩
    · obtain ⟨d, hd1, hd, hw⟩ := ih h1
      exact ⟨d + 1, by omega, by omega, snoc d x z y hw h2⟩
theorem Wlk.rch : ∀ {d : Nat} {x y : Int}, Wlk E typ y (d + 1) x → Rch E typ (d + 1) x y := by
  have cons : ∀ (n : Nat) (x z y : Int), StepE E typ x z → Rch E typ n z y → Rch E typ (n + 1) x y := by
    intro n
    induction n with
    | zero => intro x z y _ h; exact h.elim
    | succ n ih =>
      rintro x z y hs (h | ⟨u, h1, h2⟩)
      · exact .inr ⟨z, .inl hs, h⟩
      · exact .inr ⟨u, ih x z u hs h1, h2⟩
  intro d
  induction d with
  | zero => rintro x y ⟨z, hs, rfl⟩; exact .inl hs
  | succ d ih => rintro x y ⟨z, hs, hw⟩; exact cons _ _ _ _ hs (ih hw)

/-- the path that is told: of the edges that lead nearer the first -/
def PathR (E : List PEdge) (typ : ByteArray) (t : Int) : Nat → Int → List Int → Prop
  | 0, _, l => l = []
  | d + 1, x, l => ∃ pre e post l', outsE E typ x = pre ++ e :: post ∧ (∀ e' ∈ pre, ¬ Dst E typ t d e'.to_) ∧ Dst E typ t d e.to_ ∧ l = e.id :: l' ∧ PathR E typ t d e.to_ l'
def PathS (E : List PEdge) (typ : ByteArray) (x t : Int) (l : List Int) : Prop := (x = t ∧ l = []) ∨ (x ≠ t ∧ (∀ d, ¬ Wlk E typ t d x) ∧ l = []) ∨ (x ≠ t ∧ ∃ d, Dst E typ t d x ∧ PathR E typ t d x l)
theorem split_uniq {α : Type} {p : α → Prop} : ∀ {pre pre' post post' : List α} {e e' : α}, pre ++ e :: post = pre' ++ e' :: post' → (∀ x ∈ pre, ¬ p x) → (∀ x ∈ pre', ¬ p x) → p e → p e' → e = e'
  | [], [], _, _, _, _, h, _, _, _, _ => by simp at h; exact h.1
  | [], b :: s, _, _, e, e', h, _, h2, h3, _ => by
    simp at h
    exact absurd (h.1 ▸ h3) (h2 b (.head _))
  | a :: s, [], _, _, e, e', h, h1, _, _, h4 => by
    simp at h
    exact absurd (h.1 ▸ h4) (h1 a (.head _))
  | a :: s, b :: u, _, _, _, _, h, h1, h2, h3, h4 => by
    simp at h
    exact split_uniq h.2 (fun x hx => h1 x (.tail _ hx)) (fun x hx => h2 x (.tail _ hx)) h3 h4
theorem PathR.uniq {t : Int} : ∀ {d : Nat} {x : Int} {l l' : List Int}, PathR E typ t d x l → PathR E typ t d x l' → l = l'
  | 0, _, _, _, h, h' => h.trans h'.symm
  | d + 1, x, _, _, ⟨pre, e, post, l, h1, h2, h3, rfl, h4⟩, ⟨pre', e', post', l', h1', h2', h3', rfl, h4'⟩ => by
    have he : e = e' := split_uniq (p := fun e => Dst E typ t d e.to_) (h1.symm.trans h1') h2 h2' h3 h3'
    subst he
    exact congrArg (e.id :: ·) (h4.uniq h4')
theorem PathS.uniq {x t : Int} {l l' : List Int} (h : PathS E typ x t l) (h' : PathS E typ x t l') : l = l' := by
  rcases h with ⟨a, rfl⟩ | ⟨a, b, rfl⟩ | ⟨a, d, b, c⟩ <;> rcases h' with ⟨a', rfl⟩ | ⟨a', b', rfl⟩ | ⟨a', d', b', c'⟩
  · rfl
  · rfl
  · exact absurd a a'
  · rfl
  · rfl
  · exact absurd b'.1 (b _)
  · exact absurd a' a
  · exact absurd b.1 (b' _)
  · cases b.uniq b'
    exact c.uniq c'

/-- distances, on the way: those that are gone through, those that wait -/
structure QI (E : List PEdge) (typ : ByteArray) (t : Int) (f : Int → Option Nat) (dn todo : List Int) : Prop where
  nodup : (dn ++ todo).Nodup
  dom : ∀ x, x ∈ dn ++ todo ↔ ∃ d, f x = some d
  zero : f t = some 0
  walk : ∀ x d, f x = some d → Wlk E typ t d x
  cls : ∀ y ∈ dn, ∀ x d, StepE E typ x y → f y = some d → ∃ d', d' ≤ d + 1 ∧ f x = some d'
  mono : todo.Pairwise fun a b => ∀ d d', f a = some d → f b = some d' → d ≤ d'
  top : ∀ y s, todo = y :: s → ∀ x d d', f y = some d → f x = some d' → d' ≤ d + 1
  ends : ∀ x ∈ dn ++ todo, x = t ∨ ∃ e ∈ E, e.from_ = x
/-- .. the one of y's turn -/
structure QP (E : List PEdge) (typ : ByteArray) (t : Int) (f : Int → Option Nat) (dn : List Int) (y : Int) (d : Nat) (todo : List Int) (seen : List PEdge) : Prop where
  nodup : (dn ++ y :: todo).Nodup
  dom : ∀ x, x ∈ dn ++ y :: todo ↔ ∃ d, f x = some d
  zero : f t = some 0
  walk : ∀ x d, f x = some d → Wlk E typ t d x
  cls : ∀ y ∈ dn, ∀ x d, StepE E typ x y → f y = some d → ∃ d', d' ≤ d + 1 ∧ f x = some d'
  mono : (y :: todo).Pairwise fun a b => ∀ d d', f a = some d → f b = some d' → d ≤ d'
  at_ : f y = some d
  top : ∀ x d', f x = some d' → d' ≤ d + 1
  seen : ∀ e ∈ seen, ∃ d', d' ≤ d + 1 ∧ f e.from_ = some d'
  ends : ∀ x ∈ dn ++ y :: todo, x = t ∨ ∃ e ∈ E, e.from_ = x
def nput (f : Int → Option Nat) (k : Int) (v : Nat) : Int → Option Nat := fun x => if x = k then some v else f x
theorem QI.start (t : Int) : QI E typ t (nput (fun _ => none) t 0) [] [t] := by
  refine ⟨by simp, fun x => ?_, by simp [nput], ?_, by simp, by simp, ?_, by simp⟩
  · simp only [List.nil_append, List.mem_singleton, nput]
    constructor
    · rintro rfl; exact ⟨0, by simp⟩
    · rintro ⟨d, hd⟩
      by_cases hx : x = t
      · exact hx
      · simp [hx] at hd
  · intro x d hd
    by_cases hx : x = t
    · simp [nput, hx] at hd; subst hd; exact hx
    · simp [nput, hx] at hd
  · intro y s _ x d d' _ h2
    by_cases hx : x = t
    · simp [nput, hx] at h2; omega
    · simp [nput, hx] at h2
theorem QI.open {t : Int} {f : Int → Option Nat} {dn s : List Int} {y : Int} (h : QI E typ t f dn (y :: s)) : ∃ d, f y = some d ∧ QP E typ t f dn y d s [] := by
  obtain ⟨d, hd⟩ := (h.dom y).1 (by simp)
  exact ⟨d, hd, h.nodup, h.dom, h.zero, h.walk, h.cls, h.mono, hd, fun x d' hx => h.top y s rfl x d d' hd hx, by simp, h.ends⟩
theorem QP.skip {t : Int} {f : Int → Option Nat} {dn s : List Int} {y : Int} {d d' : Nat} {seen : List PEdge} (h : QP E typ t f dn y d s seen) {e : PEdge} (he : f e.from_ = some d') : QP E typ t f dn y d s (seen ++ [e]) :=
  ⟨h.nodup, h.dom, h.zero, h.walk, h.cls, h.mono, h.at_, h.top, fun x hx => by
    rcases List.mem_append.1 hx with hx | hx
    · exact h.seen x hx
    · rw [List.mem_singleton.1 hx]; exact ⟨d', h.top _ _ he, he⟩, h.ends⟩
theorem nput_same (f : Int → Option Nat) (k : Int) (v : Nat) : nput f k v k = some v := by simp [nput]
theorem nput_other (f : Int → Option Nat) {k x : Int} (v : Nat) (h : x ≠ k) : nput f k v x = f x := by simp [nput, h]
theorem QP.add {t : Int} {f : Int → Option Nat} {dn s : List Int} {y : Int} {d : Nat} {seen : List PEdge} (h : QP E typ t f dn y d s seen) {e : PEdge} (hin : e ∈ insE E typ y) (he : f e.from_ = none) :
    QP E typ t (nput f e.from_ (d + 1)) dn y d (s ++ [e.from_]) (seen ++ [e]) := by
  obtain ⟨hE, hfit⟩ := List.mem_filter.1 hin
  rw [Bool.and_eq_true, decide_eq_true_eq] at hfit
  have hstep : StepE E typ e.from_ y := ⟨e, hE, hfit.1, rfl, hfit.2⟩
  have hnot : e.from_ ∉ dn ++ y :: s := fun hm => by obtain ⟨q, hq⟩ := (h.dom _).1 hm; rw [he] at hq; cases hq
  have hsame : ∀ {x q}, f x = some q → nput f e.from_ (d + 1) x = some q := fun {x q} hx => by
    rw [nput_other]
    · exact hx
    · rintro rfl; rw [he] at hx; cases hx
  have hback : ∀ {x q}, nput f e.from_ (d + 1) x = some q → (x = e.from_ ∧ q = d + 1) ∨ f x = some q := fun {x q} hx => by
    by_cases hxe : x = e.from_
    · subst hxe
      rw [nput_same] at hx
      exact .inl ⟨rfl, (Option.some.inj hx).symm⟩
    · rw [nput_other _ _ hxe] at hx
      exact .inr hx
  have hl : dn ++ y :: (s ++ [e.from_]) = (dn ++ y :: s) ++ [e.from_] := by simp
  refine ⟨?_, ?_, hsame h.zero, ?_, ?_, ?_, hsame h.at_, ?_, ?_, ?_⟩
  · rw [hl]
    refine List.nodup_append.2 ⟨h.nodup, by simp, ?_⟩
    intro a ha b hb
    rw [List.mem_singleton] at hb
    subst hb
    rintro rfl
    exact hnot ha
  · intro x
    rw [hl, List.mem_append, h.dom, List.mem_singleton]
    constructor
    · rintro (⟨q, hq⟩ | rfl)
      · exact ⟨q, hsame hq⟩
      · exact ⟨_, nput_same _ _ _⟩
    · rintro ⟨q, hq⟩
      rcases hback hq with ⟨r, -⟩ | r
      · exact .inr r
      · exact .inl ⟨q, r⟩
  · intro x q hq
    rcases hback hq with ⟨rfl, rfl⟩ | r
    · exact ⟨y, hstep, h.walk y d h.at_⟩
    · exact h.walk x q r
  · intro z hz x q hs hq
    rcases hback hq with ⟨rfl, rfl⟩ | r
    · exact absurd (List.mem_append_left _ hz) hnot
    · obtain ⟨d', h1, h2⟩ := h.cls z hz x q hs r
      exact ⟨d', h1, hsame h2⟩
  · rw [show y :: (s ++ [e.from_]) = (y :: s) ++ [e.from_] from rfl, List.pairwise_append]
    refine ⟨h.mono.imp_of_mem ?_, by simp, ?_⟩
    · intro a b ha hb hab q q' hq hq'
      rcases hback hq with ⟨rfl, rfl⟩ | r
      · exact absurd (List.mem_append_right _ ha) hnot
      rcases hback hq' with ⟨rfl, rfl⟩ | r'
      · exact absurd (List.mem_append_right _ hb) hnot
      exact hab q q' r r'
    · intro a ha b hb q q' hq hq'
      rw [List.mem_singleton] at hb
      subst hb
      rw [nput_same] at hq'
      cases hq'
      rcases hback hq with ⟨rfl, rfl⟩ | r
      · exact Nat.le_refl _
      · exact h.top a q r
  · intro x q hq
    rcases hback hq with ⟨-, rfl⟩ | r
    · exact Nat.le_refl _
    · exact h.top x q r
  · intro e' he'
    rcases List.mem_append.1 he' with he' | he'
    · obtain ⟨d', h1, h2⟩ := h.seen e' he'
      exact ⟨d', h1, hsame h2⟩
    · rw [List.mem_singleton.1 he']
      exact ⟨d + 1, Nat.le_refl _, nput_same _ _ _⟩
  · intro x hx
    rw [hl] at hx
    rcases List.mem_append.1 hx with hx | hx
    · exact h.ends x hx
    · rw [List.mem_singleton.1 hx]
      exact .inr ⟨e, hE, rfl⟩
theorem QP.next {t : Int} {f : Int → Option Nat} {dn s : List Int} {y : Int} {d : Nat} (h : QP E typ t f dn y d s (insE E typ y)) : QI E typ t f (dn ++ [y]) s := by
  have hl : dn ++ [y] ++ s = dn ++ y :: s := by simp
  refine ⟨by rw [hl]; exact h.nodup, fun x => by rw [hl]; exact h.dom x, h.zero, h.walk, ?_, (List.pairwise_cons.1 h.mono).2, ?_, by rw [hl]; exact h.ends⟩
  · intro z hz x q hs hq
    rcases List.mem_append.1 hz with hz | hz
    · exact h.cls z hz x q hs hq
    · rw [List.mem_singleton.1 hz] at hs hq
      rw [h.at_] at hq
      cases hq
      obtain ⟨e, he, rfl⟩ := stepE_ins.1 hs
      exact h.seen e he
  · rintro z u rfl x q q' hq hq'
    have h1 := (List.pairwise_cons.1 h.mono).1 z (.head _) d q h.at_ hq
    have h2 := h.top x q' hq'
    omega
theorem QI.len {t : Int} {f : Int → Option Nat} {dn todo : List Int} (h : QI E typ t f dn todo) : dn.length + todo.length ≤ E.length + 1 := by
  have := nodup_le (fun o : Option PEdge => match o with | none => t | some e => e.from_) (none :: E.map some) _ h.nodup (fun y hy => by
    rcases h.ends y hy with rfl | ⟨e, he, rfl⟩
    · exact ⟨none, .head _, rfl⟩
    · exact ⟨some e, .tail _ (List.mem_map.2 ⟨e, he, rfl⟩), rfl⟩)
  simpa using this
theorem QP.len {t : Int} {f : Int → Option Nat} {dn todo : List Int} {y : Int} {d : Nat} {seen : List PEdge} (h : QP E typ t f dn y d todo seen) : dn.length + todo.length + 1 ≤ E.length + 1 := by
  have := nodup_le (fun o : Option PEdge => match o with | none => t | some e => e.from_) (none :: E.map some) _ h.nodup (fun y hy => by
    rcases h.ends y hy with rfl | ⟨e, he, rfl⟩
    · exact ⟨none, .head _, rfl⟩
    · exact ⟨some e, .tail _ (List.mem_map.2 ⟨e, he, rfl⟩), rfl⟩)
  simp at this
  omega
theorem QI.done {t : Int} {f : Int → Option Nat} {dn : List Int} (h : QI E typ t f dn []) (x : Int) (d : Nat) : f x = some d ↔ Dst E typ t d x := by
  have key : ∀ m x, Wlk E typ t m x → ∃ q, q ≤ m ∧ f x = some q := by
    intro m
    induction m with
    | zero => rintro x rfl; exact ⟨0, Nat.le_refl _, h.zero⟩
    | succ m ih =>
      rintro x ⟨z, hs, hw⟩
      obtain ⟨q, hq, hz⟩ := ih z hw
      obtain ⟨q', h1, h2⟩ := h.cls z (by have := (h.dom z).2 ⟨q, hz⟩; simpa using this) x q hs hz
      exact ⟨q', by omega, h2⟩
  constructor
  · intro hx
    refine ⟨h.walk x d hx, fun m hm hw => ?_⟩
    obtain ⟨q, hq, h2⟩ := key m x hw
    rw [hx] at h2
    cases h2
    omega
  · intro hx
    obtain ⟨q, hq, h2⟩ := key d x hx.1
    have := h.walk x q h2
    rcases Nat.lt_or_ge q d with r | r
    · exact absurd this (hx.2 q r)
    · have : q = d := by omega
      exact this ▸ h2
end
end Go.Hg

namespace Go.Hg
section
variable {E : List PEdge} {typ : ByteArray}

/-- where n goes -/
def spotL (l : List Int) (n : Int) : Nat := (l.takeWhile fun x => decide (x < n)).length
def putL (l : List Int) (n : Int) : List Int := if n ∈ l then l else l.take (spotL l n) ++ n :: l.drop (spotL l n)
theorem spotL_le (l : List Int) (n : Int) : spotL l n ≤ l.length := (List.takeWhile_sublist _).length_le
theorem take_spotL (l : List Int) (n : Int) : l.take (spotL l n) = l.takeWhile fun x => decide (x < n) := by
  have h := List.takeWhile_append_dropWhile (p := fun x => decide (x < n)) (l := l)
  have e : l.take (spotL l n) = ((l.takeWhile fun x => decide (x < n)) ++ l.dropWhile fun x => decide (x < n)).take (l.takeWhile fun x => decide (x < n)).length := by rw [h]; rfl
  rw [e]
  exact List.take_left' rfl
theorem drop_spotL (l : List Int) (n : Int) : l.drop (spotL l n) = l.dropWhile fun x => decide (x < n) := by
  have h := List.takeWhile_append_dropWhile (p := fun x => decide (x < n)) (l := l)
  have e : l.drop (spotL l n) = ((l.takeWhile fun x => decide (x < n)) ++ l.dropWhile fun x => decide (x < n)).drop (l.takeWhile fun x => decide (x < n)).length := by rw [h]; rfl
  rw [e]
  exact List.drop_left' rfl
/-- the count stands just there -/
theorem spotL_eq {l : List Int} {n : Int} {k : Nat} (h1 : ∀ (j : Nat) (x : Int), j < k → l[j]? = some x → x < n) (hk : k ≤ l.length) (h2 : ∀ x, l[k]? = some x → ¬ x < n) : spotL l n = k := by
  induction l generalizing k with
  | nil => simp at hk; subst hk; rfl
  | cons a t ih =>
    cases k with
    | zero =>
      have := h2 a rfl
      simp [spotL, this]
    | succ k =>
      have ha := h1 0 a (by omega) rfl
      have := ih (k := k) (fun j x hj hx => h1 (j + 1) x (by omega) (by simpa using hx)) (by simpa using hk) (fun x hx => h2 x (by simpa using hx))
      unfold spotL at this ⊢
      simp [ha, this]
theorem mem_putL (l : List Int) (n y : Int) : y ∈ putL l n ↔ y ∈ l ∨ y = n := by
  unfold putL
  split
  · constructor
    · exact .inl
    · rintro (h | rfl)
      · exact h
      · assumption
  · conv => rhs; rw [← List.take_append_drop (spotL l n) l]
    simp only [List.mem_append, List.mem_cons]
    constructor
    · rintro (h | h | h)
      · exact .inl (.inl h)
      · exact .inr h
      · exact .inl (.inr h)
    · rintro ((h | h) | h)
      · exact .inl h
      · exact .inr (.inr h)
      · exact .inr (.inl h)
theorem dropWhile_ge {n : Int} : ∀ {l : List Int}, l.Pairwise (· < ·) → ∀ x ∈ l.dropWhile (fun x => decide (x < n)), n ≤ x
  | [], _, x, hx => by cases hx
  | a :: t, h, x, hx => by
    rw [List.pairwise_cons] at h
    by_cases ha : a < n
    · rw [List.dropWhile_cons_of_pos (by simpa using ha)] at hx
      exact dropWhile_ge h.2 x hx
    · rw [List.dropWhile_cons_of_neg (by simpa using ha)] at hx
      rcases List.mem_cons.1 hx with rfl | hx
      · omega
      · have := h.1 x hx; omega
theorem takeWhile_lt {n : Int} : ∀ {l : List Int}, ∀ x ∈ l.takeWhile (fun x => decide (x < n)), x < n
  | [], x, hx => by cases hx
  | a :: t, x, hx => by
    by_cases ha : a < n
    · rw [List.takeWhile_cons_of_pos (by simpa using ha)] at hx
      rcases List.mem_cons.1 hx with rfl | hx
      · exact ha
      · exact takeWhile_lt x hx
    · rw [List.takeWhile_cons_of_neg (by simpa using ha)] at hx
      cases hx
theorem putL_rises {l : List Int} (h : l.Pairwise (· < ·)) (n : Int) : (putL l n).Pairwise (· < ·) := by
  unfold putL
  split
  · exact h
  · rename_i hn
    rw [take_spotL, drop_spotL]
    have hge : ∀ x ∈ l.dropWhile (fun x => decide (x < n)), n < x := fun x hx => by
      have h1 := dropWhile_ge h x hx
      have h2 : x ∈ l := (List.dropWhile_sublist _).subset hx
      have : x ≠ n := by rintro rfl; exact hn h2
      omega
    rw [List.pairwise_append, List.pairwise_cons]
    refine ⟨h.sublist (List.takeWhile_sublist _), ⟨hge, h.sublist (List.dropWhile_sublist _)⟩, ?_⟩
    intro a ha b hb
    have h1 := takeWhile_lt a ha
    rcases List.mem_cons.1 hb with rfl | hb
    · exact h1
    · have := hge b hb; omega
theorem RSet.put {l : List Int} {p : Int → Prop} (h : RSet l p) (n : Int) : RSet (putL l n) (fun y => p y ∨ y = n) :=
  ⟨putL_rises h.1 n, fun y => by rw [mem_putL, h.2]⟩
theorem putL_len (l : List Int) (n : Int) : (putL l n).length ≤ l.length + 1 := by
  unfold putL
  split
  · omega
  · simp only [List.length_append, List.length_take, List.length_cons, List.length_drop]
    have := spotL_le l n
    omega
theorem rises_nodup {l : List Int} (h : l.Pairwise (· < ·)) : l.Nodup := h.imp fun {a b} hab => by omega
theorem RSet.len {l : List Int} {p : Int → Prop} (h : RSet l p) (f : PEdge → Int) (hp : ∀ y, p y → ∃ e ∈ E, f e = y) : l.length ≤ E.length := nodup_le f E l (rises_nodup h.1) (fun y hy => hp y ((h.2 y).1 hy))
/-- two of the same length, the one in the other -/
theorem RSet.full {l l' : List Int} {p p' : Int → Prop} (h : RSet l p) (h' : RSet l' p') (hp : ∀ y, p y → p' y) (hl : l'.length = l.length) : ∀ y, p' y → p y := by
  intro y hy
  by_cases hn : p y
  · exact hn
  exfalso
  have hny : y ∉ l := fun hm => hn ((h.2 y).1 hm)
  have := nodup_le (id : Int → Int) l' (y :: l) (List.nodup_cons.2 ⟨hny, rises_nodup h.1⟩) (fun z hz => by
    rcases List.mem_cons.1 hz with rfl | hz
    · exact ⟨z, (h'.2 z).2 hy, rfl⟩
    · exact ⟨z, (h'.2 z).2 (hp z ((h.2 z).1 hz)), rfl⟩)
  simp only [List.length_cons] at this
  omega
/-- without what is not there, in the place of the one ahead -/
theorem RSet.more {l l' : List Int} {p p' : Int → Prop} (h : RSet l p) (h' : RSet l' p') (hp : ∀ y, p y → p' y) {x : Int} (hx : p' x) (hn : ¬ p x) : l.length + 1 ≤ l'.length := by
  have := nodup_le (id : Int → Int) l' (x :: l) (List.nodup_cons.2 ⟨fun hm => hn ((h.2 x).1 hm), rises_nodup h.1⟩) (fun z hz => by
    rcases List.mem_cons.1 hz with rfl | hz
    · exact ⟨z, (h'.2 z).2 hx, rfl⟩
    · exact ⟨z, (h'.2 z).2 (hp z ((h.2 z).1 hz)), rfl⟩)
  simpa using this

/-- the nodes to which i of the edges lead -/
def NearI (E : List PEdge) (typ : ByteArray) (x : Int) (i : Nat) (y : Int) : Prop := StepE (E.take i) typ x y
theorem stepE_snoc {x y : Int} {i : Nat} {e : PEdge} (he : E[i]? = some e) : StepE (E.take (i + 1)) typ x y ↔ StepE (E.take i) typ x y ∨ (fitE typ e = true ∧ e.from_ = x ∧ y = e.to_) := by
  rw [List.take_add_one, he]
  simp only [StepE, Option.toList_some, List.mem_append, List.mem_singleton]
  constructor
  · rintro ⟨e', h | rfl, h2, h3, h4⟩
    · exact .inl ⟨e', h, h2, h3, h4⟩
    · exact .inr ⟨h2, h3, h4.symm⟩
  · rintro (⟨e', h, h2⟩ | ⟨h2, h3, h4⟩)
    · exact ⟨e', .inl h, h2⟩
    · exact ⟨e, .inr rfl, h2, h3, h4.symm⟩
theorem near_start (x : Int) : RSet [] (NearI E typ x 0) := .nil fun y => by rintro ⟨e, h, _⟩; simp at h
theorem near_skip {l : List Int} {x : Int} {i : Nat} {e : PEdge} (h : RSet l (NearI E typ x i)) (he : E[i]? = some e) (hn : ¬ (fitE typ e = true ∧ e.from_ = x)) : RSet l (NearI E typ x (i + 1)) :=
  h.congr fun y => by
    unfold NearI
    rw [stepE_snoc he]
    exact ⟨.inl, fun h => h.elim id fun h => (hn ⟨h.1, h.2.1⟩).elim⟩
theorem near_put {l : List Int} {x : Int} {i : Nat} {e : PEdge} (h : RSet l (NearI E typ x i)) (he : E[i]? = some e) (h1 : fitE typ e = true) (h2 : e.from_ = x) : RSet (putL l e.to_) (NearI E typ x (i + 1)) :=
  (h.put e.to_).congr fun y => by
    unfold NearI
    rw [stepE_snoc he]
    exact ⟨fun h => h.imp id fun h => ⟨h1, h2, h⟩, fun h => h.imp id fun h => h.2.2⟩
theorem near_done {l : List Int} {x : Int} (h : RSet l (NearI E typ x E.length)) : RSet l (StepE E typ x) := h.congr fun y => by unfold NearI; rw [List.take_length]
theorem near_rch {l : List Int} {x : Int} (h : RSet l (StepE E typ x)) : RSet l (Rch E typ 1 x) := h.congr fun _ => ⟨.inl, fun h => h.elim id fun ⟨_, h, _⟩ => h.elim⟩

/-- of a list the successors of j, and k of the next one's -/
def MoreI (E : List PEdge) (typ : ByteArray) (id : Int) (n : Nat) (l : List Int) (j : Nat) (m : List Int) (k : Nat) (y : Int) : Prop :=
  Rch E typ n id y ∨ (∃ z ∈ l.take j, StepE E typ z y) ∨ y ∈ m.take k
theorem more_start {l m : List Int} {id : Int} {n : Nat} (h : RSet l (Rch E typ n id)) : RSet l (MoreI E typ id n l 0 m 0) := h.congr fun y => by simp [MoreI]
theorem more_put {l r m : List Int} {id : Int} {n j k : Nat} {y : Int} (h : RSet r (MoreI E typ id n l j m k)) (hy : m[k]? = some y) : RSet (putL r y) (MoreI E typ id n l j m (k + 1)) :=
  (h.put y).congr fun z => by
    simp only [MoreI, List.take_add_one, hy, Option.toList_some, List.mem_append, List.mem_singleton]
    constructor
    · rintro ((h | h | h) | h)
      · exact .inl h
      · exact .inr (.inl h)
      · exact .inr (.inr (.inl h))
      · exact .inr (.inr (.inr h))
    · rintro (h | h | h | h)
      · exact .inl (.inl h)
      · exact .inl (.inr (.inl h))
      · exact .inl (.inr (.inr h))
      · exact .inr h
theorem more_next {l r m m' : List Int} {id : Int} {n j : Nat} {x : Int} (h : RSet r (MoreI E typ id n l j m m.length)) (hx : l[j]? = some x) (hm : RSet m (StepE E typ x)) : RSet r (MoreI E typ id n l (j + 1) m' 0) :=
  h.congr fun z => by
    simp only [MoreI, List.take_add_one, hx, Option.toList_some, List.mem_append, List.mem_singleton, List.take_length, List.take_zero, List.not_mem_nil, or_false]
    constructor
    · rintro (h | ⟨u, hu, hs⟩ | h)
      · exact .inl h
      · exact .inr ⟨u, .inl hu, hs⟩
      · exact .inr ⟨x, .inr rfl, (hm.2 z).1 h⟩
    · rintro (h | ⟨u, hu | rfl, hs⟩)
      · exact .inl h
      · exact .inr (.inl ⟨u, hu, hs⟩)
      · exact .inr (.inr ((hm.2 z).2 hs))
theorem more_done {l r m : List Int} {id : Int} {n : Nat} (hn : 1 ≤ n) (hl : RSet l (Rch E typ n id)) (h : RSet r (MoreI E typ id n l l.length m 0)) : RSet r (Rch E typ (n + 1) id) :=
  h.congr fun z => by
    simp only [MoreI, List.take_length, List.take_zero, List.not_mem_nil, or_false]
    constructor
    · rintro (h | ⟨u, hu, hs⟩)
      · exact h.succ
      · exact .inr ⟨u, (hl.2 u).1 hu, hs⟩
    · rintro (h | ⟨u, hu, hs⟩)
      · exact .inl (Rch.mono (n := 1) (.inl h) hn)
      · exact .inr ⟨u, (hl.2 u).2 hu, hs⟩
theorem more_stop {l r : List Int} {id : Int} {n k : Nat} (hl : RSet l (Rch E typ n id)) (h : RSet r (Rch E typ (n + 1) id)) (he : r.length = l.length) (hk : n ≤ k) : RSet l (Rch E typ k id) :=
  hl.congr fun y => ⟨fun hy => hy.mono hk, Rch.stable (hl.full h (fun _ h => h.succ) he) k hk y⟩

/-! the path -/
theorem outs_split {x : Int} {i : Nat} {e : PEdge} (he : E[i]? = some e) (h1 : fitE typ e = true) (h2 : e.from_ = x) : outsE E typ x = outsE (E.take i) typ x ++ e :: outsE (E.drop (i + 1)) typ x := by
  have hl : E = E.take i ++ e :: E.drop (i + 1) := by
    obtain ⟨hi, rfl⟩ := List.getElem?_eq_some_iff.1 he
    rw [List.getElem_cons_drop, List.take_append_drop]
  conv => lhs; rw [hl]
  simp [outsE, List.filter_append, h1, h2]
/-- one more edge of the path -/
theorem PathR.cons {t x : Int} {d i : Nat} {e : PEdge} {l : List Int} (he : E[i]? = some e) (h1 : fitE typ e = true) (h2 : e.from_ = x) (hn : ∀ e' ∈ E.take i, fitE typ e' = true → e'.from_ = x → ¬ Dst E typ t d e'.to_) (hd : Dst E typ t d e.to_)
    (hl : PathR E typ t d e.to_ l) : PathR E typ t (d + 1) x (e.id :: l) :=
  ⟨_, e, _, l, outs_split he h1 h2, fun e' he' => by
    obtain ⟨h3, h4⟩ := List.mem_filter.1 he'
    rw [Bool.and_eq_true, decide_eq_true_eq] at h4
    exact hn e' h3 h4.1 h4.2, hd, rfl, hl⟩
theorem PathR.consO {t x : Int} {d i : Nat} {e : PEdge} {l : List Int} (he : (outsE E typ x)[i]? = some e) (hn : ∀ e' ∈ (outsE E typ x).take i, ¬ Dst E typ t d e'.to_) (hd : Dst E typ t d e.to_)
    (hl : PathR E typ t d e.to_ l) : PathR E typ t (d + 1) x (e.id :: l) :=
  ⟨_, e, (outsE E typ x).drop (i + 1), l, by
    obtain ⟨hi, rfl⟩ := List.getElem?_eq_some_iff.1 he
    rw [List.getElem_cons_drop, List.take_append_drop], hn, hd, rfl, hl⟩
theorem Dst.down {t x : Int} {d n : Nat} (h : Dst E typ t d x) (hn : n ≤ d) : ∃ z, Dst E typ t n z := by
  induction d generalizing x with
  | zero => cases Nat.le_zero.1 hn; exact ⟨x, h⟩
  | succ d ih =>
    rcases Nat.lt_or_ge n (d + 1) with h1 | h1
    · obtain ⟨z, -, hz⟩ := h.step
      exact ih hz (by omega)
    · have : n = d + 1 := by omega
      exact this ▸ ⟨x, h⟩
theorem Wlk.ends {t x : Int} {d : Nat} (h : Wlk E typ t d x) (hne : x ≠ t) : (∃ e ∈ E, e.from_ = x) ∧ ∃ e ∈ E, e.to_ = t := by
  have key : ∀ d x, Wlk E typ t (d + 1) x → ∃ e ∈ E, e.to_ = t := by
    intro d
    induction d with
    | zero => rintro x ⟨z, ⟨e, he, -, -, h4⟩, rfl⟩; exact ⟨e, he, h4⟩
    | succ d ih => rintro x ⟨z, -, hw⟩; exact ih z hw
  cases d with
  | zero => exact absurd h hne
  | succ d =>
    refine ⟨?_, key d x h⟩
    obtain ⟨z, ⟨e, he, -, h3, -⟩, -⟩ := h
    exact ⟨e, he, h3⟩
/-- those that are one further -/
theorem Dst.succ_iff {t x : Int} {n : Nat} : Dst E typ t (n + 1) x ↔ (∃ z, StepE E typ x z ∧ Dst E typ t n z) ∧ ∀ k, k ≤ n → ¬ Dst E typ t k x := by
  constructor
  · intro h
    exact ⟨h.step, fun k hk h' => by have := h.uniq h'; omega⟩
  · rintro ⟨⟨z, hs, hz⟩, hn⟩
    refine ⟨⟨z, hs, hz.1⟩, fun m hm hw => ?_⟩
    obtain ⟨d, hd, h⟩ := hw.dst
    exact hn d (by omega) h
/-- a layer, of i of the edges -/
def LayI (E : List PEdge) (typ : ByteArray) (t : Int) (n : Nat) (i : Nat) (x : Int) : Prop := (∃ z, StepE (E.take i) typ x z ∧ Dst E typ t n z) ∧ ∀ k, k ≤ n → ¬ Dst E typ t k x
theorem lay_start (t : Int) (n : Nat) : RSet [] (LayI E typ t n 0) := .nil fun y => by rintro ⟨⟨z, ⟨e, h, _⟩, _⟩, _⟩; simp at h
theorem lay_skip {t : Int} {n i : Nat} {l : List Int} {e : PEdge} (h : RSet l (LayI E typ t n i)) (he : E[i]? = some e) (hn : ¬ (fitE typ e = true ∧ Dst E typ t n e.to_ ∧ ∀ k, k ≤ n → ¬ Dst E typ t k e.from_)) : RSet l (LayI E typ t n (i + 1)) :=
  h.congr fun x => by
    unfold LayI
    constructor
    · rintro ⟨⟨z, hs, hz⟩, h2⟩
      exact ⟨⟨z, (stepE_snoc he).2 (.inl hs), hz⟩, h2⟩
    · rintro ⟨⟨z, hs, hz⟩, h2⟩
      rcases (stepE_snoc he).1 hs with hs | ⟨h3, rfl, rfl⟩
      · exact ⟨⟨z, hs, hz⟩, h2⟩
      · exact (hn ⟨h3, hz, h2⟩).elim
theorem lay_put {t : Int} {n i : Nat} {l : List Int} {e : PEdge} (h : RSet l (LayI E typ t n i)) (he : E[i]? = some e) (h1 : fitE typ e = true) (h2 : Dst E typ t n e.to_) (h3 : ∀ k, k ≤ n → ¬ Dst E typ t k e.from_) :
    RSet (putL l e.from_) (LayI E typ t n (i + 1)) :=
  (h.put e.from_).congr fun x => by
    unfold LayI
    constructor
    · rintro (⟨⟨z, hs, hz⟩, h4⟩ | rfl)
      · exact ⟨⟨z, (stepE_snoc he).2 (.inl hs), hz⟩, h4⟩
      · exact ⟨⟨e.to_, (stepE_snoc he).2 (.inr ⟨h1, rfl, rfl⟩), h2⟩, h3⟩
    · rintro ⟨⟨z, hs, hz⟩, h4⟩
      rcases (stepE_snoc he).1 hs with hs | ⟨-, rfl, -⟩
      · exact .inl ⟨⟨z, hs, hz⟩, h4⟩
      · exact .inr rfl
theorem lay_done {t : Int} {n : Nat} {l : List Int} (h : RSet l (LayI E typ t n E.length)) : RSet l (Dst E typ t (n + 1)) := h.congr fun x => by unfold LayI; rw [List.take_length, Dst.succ_iff]
/-- the end has no layer of its own further on: nothing leads from x -/
theorem lay_none {t x : Int} {n : Nat} (h : RSet [] (Dst E typ t n)) (hn : ∀ k, k < n → ¬ Dst E typ t k x) (d : Nat) : ¬ Wlk E typ t d x := by
  intro hw
  obtain ⟨q, -, hq⟩ := hw.dst
  rcases Nat.lt_or_ge q n with h1 | h1
  · exact hn q h1 hq
  · obtain ⟨z, hz⟩ := hq.down h1
    have := (h.2 z).2 hz
    cases this
end
end Go.Hg
