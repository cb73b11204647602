/- Slices of nodes and edges that are one's own; graph.Scan, some, Out, In; A row of numbers of one's own, made since a block: the law of append; A row of structs of one's own, made since a block: the law of append; hedgerowref17: Node, Edge: where an Id stands; A law's row: its argument of operations, opened; hedgerowlaw19.fair; steps; A law's row: nodes, edges, catalogs, opened. Conditions: those that each theorem names. -/
import Derived.WalkKit
import Derived.WalkSpells
import Derived.WalkLawsBesides
import Derived.Lib.Hide
import Derived.BigQuiet
import Derived.Deep.LoopGhost
import Derived.Maps.OwnOps
import Derived.Maps.OwnSet
import Derived.Carry
import Derived.Test.YtfachjfohhhgeaaGreatRows
import Derived.Lib.SlKeysI
import Derived.Lib.SliceRun
import Derived.WideMake
import Derived.Deep.RegionLaw
import Derived.Lib.Overlaps
import Derived.Deep.RegionHeld3
import Derived.Laws.ResultCell
import Derived.Shelf.SlSortCmp.WholeK
import Derived.Laws.EntriesVeiled
import Derived.Deep.DeepCutAuto
import Derived.RowKit
import Derived.ReadAgain
import Derived.ChangeOld
import Derived.Deep.Slices
import Derived.OpenShut
import Derived.Test.YtfachjfohhhgeaaGreatUdL
namespace Go.Hg
open Go.RowKit

section
variable {α : Type} {w w' : World} {E : TypeId} {sz : Nat} {R R' : α → List Value → Prop} {v v' : Value} {l : List α} {ob ob' : Option Nat}
end

theorem NodesO.toR {F : Nat → Prop} {w : World} {v : Value} {l : List PNode} (h : NodesO F w v l) : NodesR F w v l := by
  obtain ⟨S, ob, h1, h2, h3⟩ := h
  exact SlR.sub (h3.toSl (S := F) (fun g hg => (h2 g hg).1)) (fun _ h => h) (fun x r _ hR => hR.sub (fun b hb => (h1 b hb).1))
theorem EdgesO.toR {F : Nat → Prop} {w : World} {v : Value} {l : List PEdge} (h : EdgesO F w v l) : EdgesR F w v l := by
  obtain ⟨S, ob, h1, h2, h3⟩ := h
  exact SlR.sub (h3.toSl (S := F) (fun g hg => (h2 g hg).1)) (fun _ h => h) (fun x r _ hR => hR.sub (fun b hb => (h1 b hb).1))

end Go.Hg

namespace Go.Hg
open Go.RowKit Go.Proofs

abbrev IdsR (S : Nat → Prop) (w : World) (v : Value) (l : List Int) : Prop := SlR S w 1 (fun n r => r = [Value.int .i64 n]) v l
theorem IdsO.toR {w : World} {v : Value} {l : List Int} {ob : Option Nat} (h : IdsO w v l ob) {S : Nat → Prop} (hS : ∀ g, ob = some g → S g) : IdsR S w v l := by
  have h2 : OwnL w 2 1 (fun n r => r = [Value.int .i64 n]) v l ob := ⟨l.map (fun n => [.int .i64 n]), by simp, fun k x r hx hr => by
    rw [List.getElem?_map, hx] at hr
    simp only [Option.map_some, Option.some.injEq] at hr
    subst hr
    exact ⟨rfl, rfl⟩, by
    have e : (l.map fun n => [Value.int .i64 n]).flatten = l.map (.int .i64 ·) := by
      clear h hS
      induction l with
      | nil => rfl
      | cons a t ih => simp [ih]
    rw [e]; exact h⟩
  exact h2.toSl hS
end Go.Hg

namespace Go.Hg
open Go.RowKit Go.Proofs

theorem IdsW.toR {n : Nat} {w : World} {v : Value} {l : List Int} (h : IdsW n w v l) : IdsR (fun b => n ≤ b) w v l := by
  obtain ⟨ob, h1, h2⟩ := h
  exact h1.toR h2
end Go.Hg

namespace Go.Hg
open Go.RowKit Go.Proofs

section
variable {α : Type} {e : TypeId} {sz : Nat} {R : α → List Value → Prop} {n : Nat} {w w' : World} {v : Value} {l : List α}
theorem OwnN.toR (h : OwnN e sz R n w v l) : SlR (fun b => n ≤ b) w sz R v l := by
  obtain ⟨ob, h1, h2⟩ := h
  exact h1.toSl h2
end
end Go.Hg

namespace Go.Hg
open Go.RowKit Go.Proofs

def IdxAt {α : Type} (f : α → Int) (l : List α) (id r : Int) : Prop := (r = -1 ∧ (l.any fun y => decide (f y = id)) = false) ∨ ∃ (k : Nat) (x : α), r = k ∧ l[k]? = some x ∧ f x = id ∧ (l.any fun y => decide (f y = id)) = true
end Go.Hg

namespace Go.Hg
open Go.RowKit Go.ChangeShapes Go.WideShapes Go.Deep Go.Proofs

section
variable {H : Type} {enc : TypeId × Value → H} {W : World} {base : Nat} {sp : Nat → Bool} {held : Bool}
theorem cellsQ_at {b : Nat} {a : Addr} {n : Nat} {cs : List Value} (h : W.cells? b a n = some cs) : cs.length = n ∧ ∀ (j : Nat) c, cs[j]? = some c → W.cell? (a.add j) = some c := by
  unfold World.cells? at h
  split at h
  · have hl := mapM_some_length h
    simp at hl
    refine ⟨hl, fun j c hj => ?_⟩
    have hlt : j < n := by rw [← hl]; exact (List.getElem?_eq_some_iff.1 hj).1
    have := mapM_some_get h j j (by rw [List.getElem?_range hlt])
    rw [this, hj]
  · cases h
end
end Go.Hg

namespace Go.Hg
open Go.RowKit Go.Proofs

structure PStep where
  kind : Int
  o : POp
  name : ByteArray
def PStep.cells (x : PStep) : List Value := .int .i64 x.kind :: (x.o.cells ++ [.string x.name])
end Go.Hg

namespace Go.Hg
open Go.RowKit Go.ChangeShapes Go.WideShapes Go.Deep Go.Proofs

section
variable {H : Type} {enc : TypeId × Value → H} {W : World} {base : Nat} {sp : Nat → Bool} {held : Bool}
theorem openListC {α : Type} {tS tE : TypeId} {sz : Nat} (R : α → List Value → Prop) (ht : Tryz.prog.underlying tS = some (.slice tE)) (hcz : Tryz.prog.cellsOf tE = sz) (hsz : 0 < sz)
    (open1 : ∀ (n : Nat) (cs : List Value) x, DataW.trod enc Tryz.prog W base sp held n tE cs = some x → ∃ o, R o cs) {n : Nat} {cs : List Value} {x : DataW H × List MemPlace} (h : DataW.trod enc Tryz.prog W base sp held n tS cs = some x) :
    ∃ v, ∃ l : List α, cs = [v] ∧ SlR (fun _ => True) W sz R v l := by
  rcases open_slice ht h with ⟨hc, -⟩ | ⟨a, len, cap, m, n, D, Pl, hc, -, hlc, hcm, hm, -, hel⟩
  · exact ⟨_, [], hc, (OwnL.nil W tE sz R).toSl (by simp)⟩
  · rw [hcz] at hel
    have hlm : len ≤ m := by rw [hm]; split <;> omega
    have key : ∀ i, i < len → ∃ (o : α) (r : List Value), R o r ∧ r.length = sz ∧ ∀ (j : Nat) c, r[j]? = some c → W.cell? ((a.add (i * sz)).add j) = some c := by
      intro i hi
      obtain ⟨cs', h1, h2⟩ := hel i (by omega)
      obtain ⟨o, ho⟩ := open1 _ _ _ h2
      exact ⟨o, cs', ho, (cellsQ_at h1).1, (cellsQ_at h1).2⟩
    obtain ⟨l, hl, hcells⟩ : ∃ l : List (α × List Value), l.length = len ∧ ∀ i p, l[i]? = some p → R p.1 p.2 ∧ p.2.length = sz ∧ ∀ (j : Nat) c, p.2[j]? = some c → W.cell? ((a.add (i * sz)).add j) = some c := by
      have build : ∀ n, n ≤ len → ∃ l : List (α × List Value), l.length = n ∧ ∀ i p, l[i]? = some p → R p.1 p.2 ∧ p.2.length = sz ∧ ∀ (j : Nat) c, p.2[j]? = some c → W.cell? ((a.add (i * sz)).add j) = some c := by
        intro n
        induction n with
        | zero => intro _; exact ⟨[], rfl, by simp⟩
        | succ n ih =>
          intro hn
          obtain ⟨l, hl, hc⟩ := ih (by omega)
          obtain ⟨o, r, ho⟩ := key n (by omega)
          refine ⟨l ++ [(o, r)], by simp [hl], fun i o' hi => ?_⟩
          by_cases hin : i < n
          · rw [List.getElem?_append_left (by omega)] at hi
            exact hc i o' hi
          · rw [List.getElem?_append_right (by omega), hl] at hi
            have e : i - n = 0 := by have := (List.getElem?_eq_some_iff.1 hi).1; simp at this; omega
            rw [e] at hi
            simp at hi
            subst hi
            obtain rfl : i = n := by omega
            exact ho
      exact build len (Nat.le_refl _)
    subst hl
    refine ⟨_, l.map (·.1), hc, some a, cap, l.map (·.2), by simp, by simpa using hlc, hcm, by simp, fun k x r hx hr => ?_, fun h0 => ?_⟩
    · rw [List.getElem?_map] at hx hr
      cases hk : l[k]? with
      | none => rw [hk] at hx; simp at hx
      | some p =>
        rw [hk] at hx hr
        simp only [Option.map_some, Option.some.injEq] at hx hr
        subst hx; subst hr
        exact (hcells k p hk).1
    · have h0' : 0 < l.length := by simpa using h0
      obtain ⟨-, hz, hc0⟩ := hcells 0 l[0] (List.getElem?_eq_getElem h0')
      have hc0 := hc0 0 _ (List.getElem?_eq_getElem (by omega))
      rw [Nat.zero_mul] at hc0
      have ha : a = ⟨a.block, a.off, none⟩ := by
        obtain ⟨b, o, s⟩ := a
        cases s with
        | none => rfl
        | some s =>
          exfalso
          simp only [Addr.add, if_pos] at hc0
          unfold World.cell? at hc0
          simp at hc0
          split at hc0 <;> cases hc0
      have hblt : a.block < W.heap.size := by
        have := World.block_lt_of_cell? W _ hc0
        simpa [Addr.add] using this
      refine ⟨a.block, a.off, by rw [← ha], trivial, hblt, fun k r j c hr hj => ?_⟩
      rw [List.getElem?_map] at hr
      obtain ⟨p, hp, rfl⟩ := Option.map_eq_some_iff.1 hr
      have := (hcells k p hp).2.2 j c hj
      rw [ha, Addr.add_lit, Addr.add_lit] at this
      exact this
end
end Go.Hg
