/- check.Broken: without a form, Unique, Exists; What changes touch: the plain words; a rule that no spot concerns stays kept; A good graph stays good under each change; Spots in order: the plain words; hedgerowref02.Compare; hedgerowref15.Broken: without a form, Ends; hedgerowref15.Broken: Most; hedgerowref15.First, hedgerowref21.Whole; hedgerowref21.Whole; hedgerowref20.has, Touches; law20.Fair, Own: what they return; The kit's contracts of the library at this seat's functions (ShelfC); cmp.Compare, cmp.Or; (dirty.spots).sorted's comparison; dirty.among; maps.Keys at dirty.Spot: the iterator gives the map's keys, each once; slices.AppendSeq, Collect at dirty.Spot, against whatever iterator value; (dirty.spots).sorted's comparison, and slices.SortFunc, SortedFunc with it; (dirty.spots).sorted; slices.SortFunc, SortedFunc at dirty.Spot; (dirty.spots).sorted. Conditions: those that each theorem names. -/
import Derived.WalkKit
import Derived.WalkSpells
import Derived.WalkLawsBesides
import Derived.Lib.Hide
import Derived.BigQuiet
import Derived.Deep.LoopGhost
import Derived.Test.YtanijffgogpmdaaGreatRows
import Derived.Lib.SliceRun
import Derived.WideMake
import Derived.Deep.RegionLaw
import Derived.Lib.Overlaps
import Derived.Deep.RegionHeld3
import Derived.Laws.ResultCell
import Derived.Laws.EntriesVeiled
import Derived.Maps.OwnOps
import Derived.Maps.OwnSet
import Derived.Carry
import Derived.Lib.SlKeysI
import Derived.Maps.RangeWalk
import Derived.Lib.SlMapFilter
import Derived.Deep.DeepCutAuto
import Derived.Shelf.SlIterI.Nil
import Derived.Shelf.SortM.Plain
import Derived.Shelf.SortM.SortNone
import Derived.Shelf.SlMaps.DeleteFunc
import Derived.Shelf.SlSortCmp.WholeK
import Derived.Shelf.SlIterI.Collect
import Derived.RangeFuncBox
import Derived.RangeFuncLeaves
import Derived.RangeFuncWrites
import Derived.Maps.AppendAt
import Derived.Test.YtanijffgogpmdaaGreatDirF
namespace Go.Hg
open Go.RowKit Go.Proofs

def GNode (gv : Value) (N : List PNode) (w : World) : Prop := ∀ w', Grow w w' → ∀ id : Int,
  Calls Tryz.prog 53 #[gv, .int .i64 id] w' fun e w2 => (∃ i oa n c b, e = .returned (.tuple #[.agg #[.int .i64 i, .string ((typeN N id).getD ByteArray.empty), .slice oa n c], .bool b])) ∧ Grow w' w2
theorem GNode.grow {gv : Value} {N : List PNode} {w w1 : World} (h : GNode gv N w) (g : Grow w w1) : GNode gv N w1 := fun w' g' => h w' (g.step g')
def BrokPost (N : List PNode) (E : List PEdge) (r : PRule) (w : World) (e : Ending) (w' : World) : Prop := ∃ v L, e = .returned v ∧ BrokenR N E r L ∧ IdsR (fun b => w.heap.size ≤ b) w' v L ∧ Grow w w'
theorem BrokPost.of {N : List PNode} {E : List PEdge} {r : PRule} {w w1 w' : World} {v : Value} {L : List Int} (hb : BrokenR N E r L) (h : IdsR (fun b => w1.heap.size ≤ b) w' v L) (g : Grow w w1) (g' : Grow w1 w') : BrokPost N E r w (.returned v) w' :=
  ⟨v, L, rfl, hb, SlR.sub h (fun _ hb => Nat.le_trans g.size hb) (fun _ _ _ h => h), g.step g'⟩
theorem IdsPost.toR {l : List Int} {w w' : World} {e : Ending} (h : IdsPost l w e w') : ∃ v, e = .returned v ∧ IdsR (fun b => w.heap.size ≤ b) w' v l ∧ Grow w w' := by
  obtain ⟨v, h0, h1, h2⟩ := h.open
  exact ⟨v, h0, h1.toR, h2⟩

theorem ruleBoxNew (w : World) (r : PRule) (w' : World) (g : Grow (w.alloc (.cells #[.int .i64 r.id, .int .i64 r.kind, .string r.typ, .string r.name, .string r.from_, .string r.to_, .int .i64 r.n, .int .i64 r.state] 24 (0, 0))) w') : RuleBox w' w.heap.size r := by
  unfold RuleBox
  rw [g.heapEq (by simp)]
  exact heap_alloc_new w _

end Go.Hg

namespace Go.Hg

structure PSpot where
  kind : Int
  typ : ByteArray
  name : ByteArray
deriving DecidableEq

def noteG (G : PGraph) (o : POp) : List PSpot :=
  if o.kind = 1 then [⟨1, o.typ, ByteArray.empty⟩]
  else if o.kind = 3 then [⟨2, o.typ, ByteArray.empty⟩]
  else if o.kind = 2 then (match G.nodes.find? fun x => decide (x.id = o.id) with | some n => [⟨1, n.typ, ByteArray.empty⟩] | none => []) ++ (G.edges.filter fun e => atE e o.id).map fun e => ⟨2, e.typ, ByteArray.empty⟩
  else if o.kind = 4 then (match G.edges.find? fun x => decide (x.id = o.id) with | some e => [⟨2, e.typ, ByteArray.empty⟩] | none => [])
  else if o.kind = 5 then (match G.nodes.find? fun x => decide (x.id = o.id) with | some n => [⟨1, n.typ, o.name⟩] | none => []) ++ (match G.edges.find? fun x => decide (x.id = o.id) with | some e => [⟨2, e.typ, o.name⟩] | none => [])
  else []
def catO (o : POp) : PCat := ⟨[o.typ], [o.typ], [], [], 0⟩
def spotsG (G : PGraph) : List POp → List PSpot
  | [] => []
  | o :: t => (if mayG (catO o) o G = 0 then noteG G o else []) ++ spotsG (stepG (catO o) o G) t
def runG (G : PGraph) : List POp → PGraph
  | [] => G
  | o :: t => runG (stepG (catO o) o G) t
theorem spotsG_append (G : PGraph) (a b : List POp) : spotsG G (a ++ b) = spotsG G a ++ spotsG (runG G a) b := by
  induction a generalizing G with
  | nil => rfl
  | cons o t ih =>
    show (if _ then _ else _) ++ spotsG _ (t ++ b) = ((if _ then _ else _) ++ _) ++ _
    rw [ih, List.append_assoc]
    rfl
theorem runG_snoc (G : PGraph) (a : List POp) (o : POp) : runG G (a ++ [o]) = stepG (catO o) o (runG G a) := by
  induction a generalizing G with
  | nil => rfl
  | cons x t ih => exact ih _
def touchR (S : List PSpot) (r : PRule) : Bool :=
  if r.kind = 1 then decide (PSpot.mk 1 r.typ r.name ∈ S) else if r.kind = 2 then decide (PSpot.mk 1 r.typ r.name ∈ S) || decide (PSpot.mk 1 r.typ ByteArray.empty ∈ S)
  else if r.kind = 3 ∨ r.kind = 4 then decide (PSpot.mk 2 r.typ ByteArray.empty ∈ S) else false
theorem find_some_of {α : Type} {l : List α} {p : α → Bool} {x : α} (hx : x ∈ l) (hp : p x = true) : ∃ y, l.find? p = some y ∧ y ∈ l ∧ p y = true := by
  cases hf : l.find? p with
  | none => rw [List.find?_eq_none] at hf; exact absurd hp (hf x hx)
  | some y => exact ⟨y, rfl, List.mem_of_find?_eq_some hf, List.find?_some hf⟩
end Go.Hg

namespace Go.Hg

theorem bytesLess_trans : ∀ {a b c : List UInt8}, Op.bytesLess a b = true → Op.bytesLess b c = true → Op.bytesLess a c = true
  | [], b, c, h1, h2 => by
    cases c with
    | nil => cases b <;> simp [Op.bytesLess] at h1 h2
    | cons => rfl
  | x :: a, [], c, h1, _ => by simp [Op.bytesLess] at h1
  | x :: a, y :: b, [], _, h2 => by simp [Op.bytesLess] at h2
  | x :: a, y :: b, z :: c, h1, h2 => by
    have ih := @bytesLess_trans a b c
    simp only [Op.bytesLess, Bool.or_eq_true, Bool.and_eq_true, decide_eq_true_eq, beq_iff_eq] at h1 h2 ⊢
    rcases h1 with h1 | ⟨rfl, h1⟩
    · rcases h2 with h2 | ⟨rfl, h2⟩
      · left; rw [UInt8.lt_iff_toNat_lt] at *; omega
      · exact .inl h1
    · rcases h2 with h2 | ⟨rfl, h2⟩
      · exact .inl h2
      · exact .inr ⟨rfl, ih h1 h2⟩
theorem ltS_trans {a b c : ByteArray} (h1 : ltS a b = true) (h2 : ltS b c = true) : ltS a c = true := bytesLess_trans h1 h2

end Go.Hg

namespace Go.Hg

def ltSp (a b : PSpot) : Bool := decide (a.kind < b.kind) || (decide (a.kind = b.kind) && (ltS a.typ b.typ || (decide (a.typ = b.typ) && ltS a.name b.name)))
theorem ltS_irrefl (a : ByteArray) : ltS a a = false := by
  have h := ltS_tri a a
  simp at h
  exact h
theorem ltS_total {a b : ByteArray} (h1 : ltS a b = false) (h2 : ltS b a = false) : a = b := by
  have h := ltS_tri a b
  rw [h1, h2] at h
  simpa using h
theorem ltSp_irrefl (a : PSpot) : ltSp a a = false := by simp [ltSp, ltS_irrefl]
theorem ltSp_iff (a b : PSpot) : ltSp a b = true ↔ a.kind < b.kind ∨ (a.kind = b.kind ∧ (ltS a.typ b.typ = true ∨ (a.typ = b.typ ∧ ltS a.name b.name = true))) := by simp [ltSp]
theorem ltSp_trans {a b c : PSpot} (h1 : ltSp a b = true) (h2 : ltSp b c = true) : ltSp a c = true := by
  rw [ltSp_iff] at h1 h2 ⊢
  rcases h1 with h1 | ⟨e1, h1⟩ <;> rcases h2 with h2 | ⟨e2, h2⟩
  · exact .inl (by omega)
  · exact .inl (by omega)
  · exact .inl (by omega)
  · refine .inr ⟨by omega, ?_⟩
    rcases h1 with h1 | ⟨f1, h1⟩ <;> rcases h2 with h2 | ⟨f2, h2⟩
    · exact .inl (ltS_trans h1 h2)
    · exact .inl (f2 ▸ h1)
    · exact .inl (f1 ▸ h2)
    · exact .inr ⟨f1.trans f2, ltS_trans h1 h2⟩
theorem ltSp_total {a b : PSpot} (h1 : ltSp a b = false) (h2 : ltSp b a = false) : a = b := by
  have g1 : ¬ ltSp a b = true := by rw [h1]; simp
  have g2 : ¬ ltSp b a = true := by rw [h2]; simp
  rw [ltSp_iff] at g1 g2
  have hk : a.kind = b.kind := by
    have : ¬ a.kind < b.kind := fun h => g1 (.inl h)
    have : ¬ b.kind < a.kind := fun h => g2 (.inl h)
    omega
  have k1 : ¬ (ltS a.typ b.typ = true ∨ (a.typ = b.typ ∧ ltS a.name b.name = true)) := fun h => g1 (.inr ⟨hk, h⟩)
  have k2 : ¬ (ltS b.typ a.typ = true ∨ (b.typ = a.typ ∧ ltS b.name a.name = true)) := fun h => g2 (.inr ⟨hk.symm, h⟩)
  have ht : a.typ = b.typ := ltS_total (by simpa using fun h => k1 (.inl h)) (by simpa using fun h => k2 (.inl h))
  have hn : a.name = b.name := ltS_total (by simpa using fun h => k1 (.inr ⟨ht, h⟩)) (by simpa using fun h => k2 (.inr ⟨ht.symm, h⟩))
  cases a; cases b
  simp only at hk ht hn
  rw [hk, ht, hn]
theorem ltSp_asymm {a b : PSpot} (h : ltSp a b = true) : ltSp b a = false := by
  cases h2 : ltSp b a with
  | false => rfl
  | true => have := ltSp_trans h h2; rw [ltSp_irrefl] at this; cases this

def SpSet (l : List PSpot) (S : List PSpot) : Prop := l.Pairwise (fun a b => ltSp a b = true) ∧ ∀ x, x ∈ l ↔ x ∈ S
theorem spSame : ∀ {l l' : List PSpot}, l.Pairwise (fun a b => ltSp a b = true) → l'.Pairwise (fun a b => ltSp a b = true) → (∀ x, x ∈ l ↔ x ∈ l') → l = l'
  | [], [], _, _, _ => rfl
  | [], b :: t', _, _, h => absurd ((h b).2 (.head _)) (by simp)
  | a :: t, [], _, _, h => absurd ((h a).1 (.head _)) (by simp)
  | a :: t, b :: t', h1, h2, h => by
    rw [List.pairwise_cons] at h1 h2
    have hab : a = b := by
      have ha := (h a).1 (.head _)
      have hb := (h b).2 (.head _)
      rcases List.mem_cons.1 ha with e | ha
      · exact e
      · rcases List.mem_cons.1 hb with e | hb
        · exact e.symm
        · have g1 := h1.1 _ hb
          have g2 := h2.1 _ ha
          rw [ltSp_asymm g1] at g2
          cases g2
    subst hab
    refine congrArg (a :: ·) (spSame h1.2 h2.2 fun x => ?_)
    constructor
    · intro hx
      rcases List.mem_cons.1 ((h x).1 (.tail _ hx)) with rfl | hx'
      · have := h1.1 _ hx; rw [ltSp_irrefl] at this; cases this
      · exact hx'
    · intro hx
      rcases List.mem_cons.1 ((h x).2 (.tail _ hx)) with rfl | hx'
      · have := h2.1 _ hx; rw [ltSp_irrefl] at this; cases this
      · exact hx'
theorem SpSet.uniq {l l' S : List PSpot} (h : SpSet l S) (h' : SpSet l' S) : l = l' := spSame h.1 h'.1 fun x => by rw [h.2, h'.2]
theorem SpSet.nil : SpSet [] [] := ⟨.nil, fun _ => Iff.rfl⟩
theorem SpSet.congr {l S T : List PSpot} (h : SpSet l S) (hs : ∀ x, x ∈ S ↔ x ∈ T) : SpSet l T := ⟨h.1, fun x => (h.2 x).trans (hs x)⟩
theorem takeWhile_mem {α : Type} {p : α → Bool} : ∀ {l : List α} {x : α}, x ∈ l.takeWhile p → p x = true
  | [], _, h => by cases h
  | a :: t, x, h => by
    rw [List.takeWhile_cons] at h
    split at h
    · rename_i ha
      rcases List.mem_cons.1 h with rfl | h
      · exact ha
      · exact takeWhile_mem h
    · cases h
def putSp (l : List PSpot) (s : PSpot) : List PSpot := if s ∈ l then l else (l.takeWhile fun x => ltSp x s) ++ s :: (l.dropWhile fun x => ltSp x s)
theorem SpSet.put {l S : List PSpot} (h : SpSet l S) (s : PSpot) : SpSet (putSp l s) (S ++ [s]) := by
  unfold putSp
  by_cases hs : s ∈ l
  · rw [if_pos hs]
    exact ⟨h.1, fun x => by
      rw [h.2, List.mem_append, List.mem_singleton]
      constructor
      · exact .inl
      · rintro (h1 | rfl)
        · exact h1
        · exact (h.2 x).1 hs⟩
  · rw [if_neg hs]
    have hT : ∀ x ∈ l.takeWhile (fun x => ltSp x s), ltSp x s = true := fun x hx => takeWhile_mem (p := fun x => ltSp x s) hx
    have hmem : ∀ x, x ∈ l ↔ x ∈ l.takeWhile (fun x => ltSp x s) ∨ x ∈ l.dropWhile (fun x => ltSp x s) := fun x => by
      conv => lhs; rw [← List.takeWhile_append_dropWhile (p := fun x => ltSp x s) (l := l)]
      exact List.mem_append
    have hD : ∀ x ∈ l.dropWhile (fun x => ltSp x s), ltSp s x = true := by
      intro x hx
      have hp : (l.dropWhile fun x => ltSp x s).Pairwise (fun a b => ltSp a b = true) := h.1.sublist (List.dropWhile_sublist _)
      cases hd : l.dropWhile (fun x => ltSp x s) with
      | nil => rw [hd] at hx; cases hx
      | cons a t =>
        have ha : ltSp a s = false := by
          have := List.head?_dropWhile_not (fun x => ltSp x s) l
          rw [hd] at this
          simpa using this
        have hne : s ≠ a := by
          rintro rfl
          exact hs ((hmem s).2 (.inr (by rw [hd]; exact .head _)))
        have hsa : ltSp s a = true := by
          cases hc : ltSp s a with
          | true => rfl
          | false => exact absurd (ltSp_total hc ha) hne
        rw [hd] at hx hp
        rw [List.pairwise_cons] at hp
        rcases List.mem_cons.1 hx with rfl | hx
        · exact hsa
        · exact ltSp_trans hsa (hp.1 x hx)
    refine ⟨?_, fun x => ?_⟩
    · rw [List.pairwise_append, List.pairwise_cons]
      refine ⟨h.1.sublist (List.takeWhile_sublist _), ⟨hD, h.1.sublist (List.dropWhile_sublist _)⟩, ?_⟩
      intro a ha b hb
      rcases List.mem_cons.1 hb with rfl | hb
      · exact hT a ha
      · exact ltSp_trans (hT a ha) (hD b hb)
    · rw [List.mem_append, List.mem_cons, List.mem_append, List.mem_singleton, ← h.2 x, hmem x]
      constructor
      · rintro (h1 | h1 | h1)
        · exact .inl (.inl h1)
        · exact .inr h1
        · exact .inl (.inr h1)
      · rintro ((h1 | h1) | h1)
        · exact .inl h1
        · exact .inr (.inr h1)
        · exact .inr (.inl h1)
end Go.Hg

namespace Go.Hg
open Go.RowKit Go.Proofs

theorem int_beq (a b : Int) : (a == b) = decide (a = b) := by by_cases h : a = b <;> simp [h]
end Go.Hg

namespace Go.Hg
open Go.RowKit Go.Proofs

def RBrk (N : List PNode) (E : List PEdge) (r : PRule) (L : List Int) : Prop :=
  (formR r = false → L = []) ∧ (formR r = true → if r.kind = 4 then L.Nodup ∧ ∀ x, x ∈ L ↔ r.n < (outR E r x : Int) else BrkR N E r L)
def RBrkPost (N : List PNode) (E : List PEdge) (r : PRule) (w : World) (e : Ending) (w' : World) : Prop := ∃ v L, e = .returned v ∧ RBrk N E r L ∧ IdsW w.heap.size w' v L ∧ Grow w w'
theorem RBrkPost.of {N : List PNode} {E : List PEdge} {r : PRule} {w w1 w' : World} {v : Value} {L : List Int} (hb : BrokenR N E r L) (hk : r.kind ≠ 4) (h : IdsW w1.heap.size w' v L) (g : Grow w w1) (g' : Grow w1 w') : RBrkPost N E r w (.returned v) w' :=
  ⟨v, L, rfl, ⟨hb.1, fun hf => by rw [if_neg hk]; exact hb.2 hf⟩, h.base g.size, g.step g'⟩

end Go.Hg

namespace Go.Hg
open Go.RowKit Go.Proofs

def mtE (r : PRule) (y : Int) (e : PEdge) : Bool := decide (e.typ = r.typ) && decide (e.from_ = y)
theorem outR_take {E : List PEdge} {r : PRule} {y : Int} {k : Nat} {e : PEdge} (hT : E.take (k + 1) = E.take k ++ [e]) : outR (E.take (k + 1)) r y = outR (E.take k) r y + if mtE r y e = true then 1 else 0 := by
  unfold outR
  rw [hT, List.filter_append, List.length_append]
  unfold mtE
  by_cases h : (decide (e.typ = r.typ) && decide (e.from_ = y)) = true
  · rw [if_pos h]; simp only [List.filter_cons, if_pos h, List.filter_nil, List.length_singleton]
  · rw [if_neg h]; simp only [List.filter_cons, if_neg h, List.filter_nil, List.length_nil]
def firstE (E : List PEdge) (r : PRule) (y : Int) (j k : Nat) : Bool := decide (outR (E.take (min k j)) r y = 0)
def MostI (E : List PEdge) (r : PRule) (i : Nat) (l : List Int) : Prop := l.Nodup ∧ ∀ y, y ∈ l ↔ r.n < (outR E r y : Int) ∧ 0 < outR (E.take i) r y
theorem MostI.step {E : List PEdge} {r : PRule} {i : Nat} {l : List Int} {e : PEdge} (h : MostI E r i l) (hT : E.take (i + 1) = E.take i ++ [e]) (hi : i ≤ E.length) {b : Bool}
    (hb : (decide (e.typ = r.typ) && (decide (r.n < (outR E r e.from_ : Int)) && firstE E r e.from_ i E.length)) = b) : MostI E r (i + 1) (if b = true then l ++ [e.from_] else l) := by
  unfold firstE at hb
  rw [Nat.min_eq_right hi] at hb
  cases b with
  | true =>
    simp only [Bool.and_eq_true, decide_eq_true_eq] at hb
    obtain ⟨h1, h2, h3⟩ := hb
    rw [if_pos rfl]
    refine ⟨?_, fun y => ?_⟩
    · rw [List.nodup_append]
      refine ⟨h.1, by simp, ?_⟩
      intro a ha c hc hac
      rw [List.mem_singleton] at hc
      subst hc; subst hac
      have := ((h.2 _).1 ha).2
      omega
    · rw [List.mem_append, List.mem_singleton, h.2, outR_take hT]
      constructor
      · rintro (⟨g1, g2⟩ | rfl)
        · exact ⟨g1, by omega⟩
        · exact ⟨h2, by simp [mtE, h1]⟩
      · rintro ⟨g1, g2⟩
        by_cases hm : mtE r y e = true
        · unfold mtE at hm
          simp only [Bool.and_eq_true, decide_eq_true_eq] at hm
          exact .inr hm.2.symm
        · rw [if_neg hm] at g2
          exact .inl ⟨g1, by omega⟩
  | false =>
    rw [if_neg (by simp)]
    refine ⟨h.1, fun y => ?_⟩
    rw [h.2, outR_take hT]
    constructor
    · rintro ⟨g1, g2⟩
      exact ⟨g1, by omega⟩
    · rintro ⟨g1, g2⟩
      refine ⟨g1, ?_⟩
      by_cases hm : mtE r y e = true
      · unfold mtE at hm
        simp only [Bool.and_eq_true, decide_eq_true_eq] at hm
        obtain ⟨m1, rfl⟩ := hm
        simp only [m1, decide_true, Bool.true_and, Bool.and_eq_false_iff, decide_eq_false_iff_not] at hb
        rcases hb with hb | hb
        · exact absurd g1 hb
        · omega
      · rw [if_neg hm] at g2
        omega
end Go.Hg

namespace Go.Hg
open Go.RowKit Go.Proofs

theorem ruleAt {w wr : World} {p : PRule} {r : List Value} {b o : Nat} (h : RRule p r) (hb : b < w.heap.size) (g : Grow w wr) (hc : ∀ (j : Nat) c, r[j]? = some c → w.cell? ⟨b, o + j, none⟩ = some c) :
    b < wr.heap.size ∧ wr.cell? ⟨b, o, none⟩ = some (.int .i64 p.id) ∧ wr.cell? ⟨b, o + 1, none⟩ = some (.int .i64 p.kind) ∧ wr.cell? ⟨b, o + 2, none⟩ = some (.string p.typ) ∧ wr.cell? ⟨b, o + 3, none⟩ = some (.string p.name) ∧
    wr.cell? ⟨b, o + 4, none⟩ = some (.string p.from_) ∧ wr.cell? ⟨b, o + 5, none⟩ = some (.string p.to_) ∧ wr.cell? ⟨b, o + 6, none⟩ = some (.int .i64 p.n) ∧ wr.cell? ⟨b, o + 7, none⟩ = some (.int .i64 p.state) := by
  unfold RRule at h
  subst h
  refine ⟨Nat.lt_of_lt_of_le hb g.size, ?_, ?_, ?_, ?_, ?_, ?_, ?_, ?_⟩
  · exact (g.cell (p := ⟨b, o, none⟩) hb).trans (hc 0 _ rfl)
  · exact (g.cell (p := ⟨b, o + 1, none⟩) hb).trans (hc 1 _ rfl)
  · exact (g.cell (p := ⟨b, o + 2, none⟩) hb).trans (hc 2 _ rfl)
  · exact (g.cell (p := ⟨b, o + 3, none⟩) hb).trans (hc 3 _ rfl)
  · exact (g.cell (p := ⟨b, o + 4, none⟩) hb).trans (hc 4 _ rfl)
  · exact (g.cell (p := ⟨b, o + 5, none⟩) hb).trans (hc 5 _ rfl)
  · exact (g.cell (p := ⟨b, o + 6, none⟩) hb).trans (hc 6 _ rfl)
  · exact (g.cell (p := ⟨b, o + 7, none⟩) hb).trans (hc 7 _ rfl)

end Go.Hg

namespace Go.Hg
open Go.RowKit Go.Proofs

def RSpot (s : PSpot) (r : List Value) : Prop := r = [.int .i64 s.kind, .string s.typ, .string s.name]
abbrev PSpot.args (s : PSpot) : Value := .agg #[.int .i64 s.kind, .string s.typ, .string s.name]
abbrev SpotsR (S : Nat → Prop) (w : World) (v : Value) (l : List PSpot) : Prop := SlR S w 3 RSpot v l
theorem spotAt {w wr : World} {p : PSpot} {r : List Value} {b o : Nat} (h : RSpot p r) (hb : b < w.heap.size) (g : Grow w wr) (hc : ∀ (j : Nat) c, r[j]? = some c → w.cell? ⟨b, o + j, none⟩ = some c) :
    b < wr.heap.size ∧ wr.cell? ⟨b, o, none⟩ = some (.int .i64 p.kind) ∧ wr.cell? ⟨b, o + 1, none⟩ = some (.string p.typ) ∧ wr.cell? ⟨b, o + 2, none⟩ = some (.string p.name) := by
  unfold RSpot at h
  subst h
  refine ⟨Nat.lt_of_lt_of_le hb g.size, ?_, ?_, ?_⟩
  · exact (g.cell (p := ⟨b, o, none⟩) hb).trans (hc 0 _ rfl)
  · exact (g.cell (p := ⟨b, o + 1, none⟩) hb).trans (hc 1 _ rfl)
  · exact (g.cell (p := ⟨b, o + 2, none⟩) hb).trans (hc 2 _ rfl)
theorem SpotsR.grow {S : Nat → Prop} {w w' : World} {v : Value} {l : List PSpot} (h : SpotsR S w v l) (g : Grow w w') : SpotsR S w' v l :=
  SlR.keep h (fun _ _ hb => g.heapEq hb) g.size (fun _ _ _ hR => hR)
theorem spot_eq (a b : PSpot) : a = b ↔ a.kind = b.kind ∧ a.typ = b.typ ∧ a.name = b.name := by
  constructor
  · rintro rfl; exact ⟨rfl, rfl, rfl⟩
  · intro h; cases a; cases b; simp_all
theorem mem_take_snoc {α : Type} [DecidableEq α] {l : List α} {k : Nat} {x s : α} (hT : l.take (k + 1) = l.take k ++ [x]) (h : s ∉ l.take k) (hx : s ≠ x) : s ∉ l.take (k + 1) := by
  rw [hT, List.mem_append, List.mem_singleton]
  rintro (h1 | h1)
  · exact h h1
  · exact hx h1

end Go.Hg

namespace Go.Hg
open Go.RowKit Go.Proofs

theorem infoSpot : (Tryz.prog.info? 136).map (fun i => (i.zero, i.size, i.bytes)) = some (some (.agg #[.int .i64 0, .string ByteArray.empty, .string ByteArray.empty]), 3, 40) := by kernel_rfl
abbrev PSpot.cells (s : PSpot) : List Value := [.int .i64 s.kind, .string s.typ, .string s.name]
theorem spotCells1 (s : PSpot) : ∀ u ∈ s.cells, u.oneCell' = true := by
  intro u hu
  simp only [List.mem_cons, List.not_mem_nil, or_false] at hu
  rcases hu with rfl | rfl | rfl <;> rfl
end Go.Hg

namespace Go.Hg
open Go.RowKit Go.Maps Go.Sort Go.Shelf Go.Proofs

def keysN_ren : Go.Shelf.Ren := ⟨fun | 7 => 90 | 10 => 136 | n => n, fun | 23 => 151 | 26 => 3 | 3 => 3 | 28 => 154 | 0 => 0 | 27 => 153 | 33 => 193 | 4 => 4 | n => n, fun | n => n⟩
theorem keysN : SlLaysZI.n7 Tryz.prog keysN_ren := {
  mixed := by kernel_rfl,
  f7 := ⟨Tryz.f90.name, by decide, Tryz.func90.trans (congrArg some (by kernel_rfl))⟩,
  f10 := ⟨Tryz.f136.name, by decide, Tryz.func136.trans (congrArg some (by kernel_rfl))⟩,
  t0 := Tryz.underlying0,
  a0 := Tryz.isAgg0,
  z0 := Tryz.sizeOf0,
  v0 := Tryz.zeroValue0,
  t4 := Tryz.underlying4,
  a4 := Tryz.isAgg4,
  z4 := Tryz.sizeOf4,
  v4 := Tryz.zeroValue4,
  t23 := Tryz.underlying151,
  a23 := Tryz.isAgg151,
  z23 := Tryz.sizeOf151,
  v23 := Tryz.zeroValue151,
  t26 := Tryz.underlying3,
  a26 := Tryz.isAgg3,
  z26 := Tryz.sizeOf3,
  v26 := Tryz.zeroValue3,
  t27 := Tryz.underlying153,
  a27 := Tryz.isAgg153,
  z27 := Tryz.sizeOf153,
  v27 := Tryz.zeroValue153,
  t28 := Tryz.underlying154,
  a28 := Tryz.isAgg154,
  z28 := Tryz.sizeOf154,
  v28 := Tryz.zeroValue154,
  t33 := Tryz.underlying193,
  a33 := Tryz.isAgg193,
  z33 := Tryz.sizeOf193,
  v33 := Tryz.zeroValue193 }
def sortedN_ren : Go.Shelf.Ren := ⟨fun | 6 => 89 | 8 => 134 | 9 => 135 | 11 => 170 | 13 => 150 | 12 => 171 | 23 => 182 | 24 => 183 | 14 => 196 | 15 => 197 | 16 => 198 | 17 => 199 | 18 => 200 | 19 => 201 | 20 => 202 | 21 => 203 | 22 => 204 | 25 => 222 | 26 => 206 | 27 => 207 | 28 => 223 | 29 => 224 | 30 => 168 | 31 => 230 | n => n, fun | 26 => 3 | 28 => 154 | 24 => 75 | 0 => 0 | 3 => 3 | 37 => 205 | 48 => 228 | 50 => 230 | 4 => 4 | 40 => 221 | 39 => 220 | 45 => 137 | 5 => 5 | 9 => 9 | 51 => 252 | 55 => 256 | 57 => 267 | 58 => 63 | 33 => 193 | n => n, fun | n => n⟩
theorem sortedN : SlLaysZI.n6 Tryz.prog sortedN_ren := {
  mixed := by kernel_rfl,
  f6 := ⟨Tryz.f89.name, by decide, Tryz.func89.trans (congrArg some (by kernel_rfl))⟩,
  f8 := ⟨Tryz.f134.name, by decide, Tryz.func134.trans (congrArg some (by kernel_rfl))⟩,
  f11 := ⟨Tryz.f170.name, by decide, Tryz.func170.trans (congrArg some (by kernel_rfl))⟩,
  t0 := Tryz.underlying0,
  a0 := Tryz.isAgg0,
  z0 := Tryz.sizeOf0,
  v0 := Tryz.zeroValue0,
  t24 := Tryz.underlying75,
  a24 := Tryz.isAgg75,
  z24 := Tryz.sizeOf75,
  v24 := Tryz.zeroValue75,
  t26 := Tryz.underlying3,
  a26 := Tryz.isAgg3,
  z26 := Tryz.sizeOf3,
  v26 := Tryz.zeroValue3,
  t28 := Tryz.underlying154,
  a28 := Tryz.isAgg154,
  z28 := Tryz.sizeOf154,
  v28 := Tryz.zeroValue154,
  i26 := by kernel_rfl }
def sortN_ren : Go.Shelf.Ren := ⟨fun | 5 => 135 | 8 => 150 | 7 => 171 | 19 => 182 | 20 => 183 | 10 => 196 | 11 => 197 | 12 => 198 | 13 => 199 | 14 => 200 | 15 => 201 | 16 => 202 | 17 => 203 | 18 => 204 | 30 => 222 | 31 => 206 | 32 => 207 | 33 => 223 | 34 => 224 | 35 => 168 | 40 => 230 | n => n, fun | 23 => 75 | 25 => 3 | 3 => 3 | 32 => 205 | 22 => 75 | 0 => 0 | 44 => 228 | 46 => 230 | 4 => 4 | 36 => 221 | 35 => 220 | 41 => 137 | 5 => 5 | 9 => 9 | 53 => 252 | 57 => 256 | 63 => 267 | 64 => 63 | n => n, fun | n => n⟩
theorem sortN : SlLaysM.n5 Tryz.prog sortN_ren := {
  mixed := by kernel_rfl,
  f5 := ⟨Tryz.f135.name, by decide, Tryz.func135.trans (congrArg some (by kernel_rfl))⟩,
  f7 := ⟨Tryz.f171.name, by decide, Tryz.func171.trans (congrArg some (by kernel_rfl))⟩,
  f8 := Tryz.func150.trans (congrArg some (by kernel_rfl)),
  f10 := ⟨Tryz.f196.name, by decide, Tryz.func196.trans (congrArg some (by kernel_rfl))⟩,
  f11 := ⟨Tryz.f197.name, by decide, Tryz.func197.trans (congrArg some (by kernel_rfl))⟩,
  f12 := ⟨Tryz.f198.name, by decide, Tryz.func198.trans (congrArg some (by kernel_rfl))⟩,
  f13 := ⟨Tryz.f199.name, by decide, Tryz.func199.trans (congrArg some (by kernel_rfl))⟩,
  f14 := ⟨Tryz.f200.name, by decide, Tryz.func200.trans (congrArg some (by kernel_rfl))⟩,
  f15 := ⟨Tryz.f201.name, by decide, Tryz.func201.trans (congrArg some (by kernel_rfl))⟩,
  f16 := ⟨Tryz.f202.name, by decide, Tryz.func202.trans (congrArg some (by kernel_rfl))⟩,
  f17 := ⟨Tryz.f203.name, by decide, Tryz.func203.trans (congrArg some (by kernel_rfl))⟩,
  f18 := ⟨Tryz.f204.name, by decide, Tryz.func204.trans (congrArg some (by kernel_rfl))⟩,
  f19 := Tryz.func182.trans (congrArg some (by kernel_rfl)),
  f20 := Tryz.func183.trans (congrArg some (by kernel_rfl)),
  f30 := ⟨Tryz.f222.name, by decide, Tryz.func222.trans (congrArg some (by kernel_rfl))⟩,
  f31 := Tryz.func206.trans (congrArg some (by kernel_rfl)),
  f32 := Tryz.func207.trans (congrArg some (by kernel_rfl)),
  f33 := ⟨Tryz.f223.name, by decide, Tryz.func223.trans (congrArg some (by kernel_rfl))⟩,
  f34 := ⟨Tryz.f224.name, by decide, Tryz.func224.trans (congrArg some (by kernel_rfl))⟩,
  f35 := ⟨Tryz.f168.name, by decide, Tryz.func168.trans (congrArg some (by kernel_rfl))⟩,
  f40 := ⟨Tryz.f230.name, by decide, Tryz.func230.trans (congrArg some (by kernel_rfl))⟩,
  t0 := Tryz.underlying0,
  a0 := Tryz.isAgg0,
  z0 := Tryz.sizeOf0,
  v0 := Tryz.zeroValue0,
  t3 := Tryz.underlying3,
  a3 := Tryz.isAgg3,
  z3 := Tryz.sizeOf3,
  v3 := Tryz.zeroValue3,
  t4 := Tryz.underlying4,
  a4 := Tryz.isAgg4,
  z4 := Tryz.sizeOf4,
  v4 := Tryz.zeroValue4,
  t5 := Tryz.underlying5,
  a5 := Tryz.isAgg5,
  z5 := Tryz.sizeOf5,
  v5 := Tryz.zeroValue5,
  t9 := Tryz.underlying9,
  a9 := Tryz.isAgg9,
  z9 := Tryz.sizeOf9,
  v9 := Tryz.zeroValue9,
  t22 := Tryz.underlying75,
  a22 := Tryz.isAgg75,
  z22 := Tryz.sizeOf75,
  v22 := Tryz.zeroValue75,
  t23 := Tryz.underlying75,
  a23 := Tryz.isAgg75,
  z23 := Tryz.sizeOf75,
  v23 := Tryz.zeroValue75,
  t25 := Tryz.underlying3,
  a25 := Tryz.isAgg3,
  z25 := Tryz.sizeOf3,
  v25 := Tryz.zeroValue3,
  t32 := Tryz.underlying205,
  a32 := Tryz.isAgg205,
  z32 := Tryz.sizeOf205,
  v32 := Tryz.zeroValue205,
  t35 := Tryz.underlying220,
  a35 := Tryz.isAgg220,
  z35 := Tryz.sizeOf220,
  v35 := Tryz.zeroValue220,
  t36 := Tryz.underlying221,
  a36 := Tryz.isAgg221,
  z36 := Tryz.sizeOf221,
  v36 := Tryz.zeroValue221,
  t41 := Tryz.underlying137,
  a41 := Tryz.isAgg137,
  z41 := Tryz.sizeOf137,
  v41 := Tryz.zeroValue137,
  t44 := Tryz.underlying228,
  a44 := Tryz.isAgg228,
  z44 := Tryz.sizeOf228,
  v44 := Tryz.zeroValue228,
  t46 := Tryz.underlying230,
  a46 := Tryz.isAgg230,
  z46 := Tryz.sizeOf230,
  v46 := Tryz.zeroValue230,
  t53 := Tryz.underlying252,
  a53 := Tryz.isAgg252,
  z53 := Tryz.sizeOf252,
  v53 := Tryz.zeroValue252,
  t57 := Tryz.underlying256,
  a57 := Tryz.isAgg256,
  z57 := Tryz.sizeOf256,
  v57 := Tryz.zeroValue256,
  t63 := Tryz.underlying267,
  a63 := Tryz.isAgg267,
  z63 := Tryz.sizeOf267,
  v63 := Tryz.zeroValue267,
  t64 := Tryz.underlying63,
  a64 := Tryz.isAgg63,
  z64 := Tryz.sizeOf63,
  v64 := Tryz.zeroValue63 }
def sortFS_ren : Go.Shelf.Ren := ⟨fun | 6 => 166 | 15 => 150 | 14 => 195 | 28 => 182 | 29 => 183 | 20 => 214 | 21 => 215 | 22 => 216 | 23 => 217 | 24 => 218 | 25 => 219 | 26 => 220 | 27 => 221 | 46 => 227 | 47 => 206 | 48 => 207 | 49 => 228 | 50 => 229 | 57 => 232 | n => n, fun | 22 => 59 | 24 => 136 | 25 => 191 | 3 => 3 | 39 => 205 | 0 => 0 | 53 => 228 | 55 => 230 | 4 => 4 | 46 => 221 | 45 => 220 | 50 => 137 | 5 => 5 | 9 => 9 | 66 => 252 | 70 => 256 | 76 => 267 | 77 => 63 | n => n, fun | n => n⟩
theorem sortFS : SlLaysF0.n6 Tryz.prog sortFS_ren := {
  mixed := by kernel_rfl,
  f6 := ⟨Tryz.f166.name, by decide, Tryz.func166.trans (congrArg some (by kernel_rfl))⟩,
  f14 := ⟨Tryz.f195.name, by decide, Tryz.func195.trans (congrArg some (by kernel_rfl))⟩,
  f15 := Tryz.func150.trans (congrArg some (by kernel_rfl)),
  f20 := ⟨Tryz.f214.name, by decide, Tryz.func214.trans (congrArg some (by kernel_rfl))⟩,
  f21 := ⟨Tryz.f215.name, by decide, Tryz.func215.trans (congrArg some (by kernel_rfl))⟩,
  f22 := ⟨Tryz.f216.name, by decide, Tryz.func216.trans (congrArg some (by kernel_rfl))⟩,
  f23 := ⟨Tryz.f217.name, by decide, Tryz.func217.trans (congrArg some (by kernel_rfl))⟩,
  f24 := ⟨Tryz.f218.name, by decide, Tryz.func218.trans (congrArg some (by kernel_rfl))⟩,
  f25 := ⟨Tryz.f219.name, by decide, Tryz.func219.trans (congrArg some (by kernel_rfl))⟩,
  f26 := ⟨Tryz.f220.name, by decide, Tryz.func220.trans (congrArg some (by kernel_rfl))⟩,
  f27 := ⟨Tryz.f221.name, by decide, Tryz.func221.trans (congrArg some (by kernel_rfl))⟩,
  f28 := Tryz.func182.trans (congrArg some (by kernel_rfl)),
  f29 := Tryz.func183.trans (congrArg some (by kernel_rfl)),
  f46 := ⟨Tryz.f227.name, by decide, Tryz.func227.trans (congrArg some (by kernel_rfl))⟩,
  f47 := Tryz.func206.trans (congrArg some (by kernel_rfl)),
  f48 := Tryz.func207.trans (congrArg some (by kernel_rfl)),
  f49 := ⟨Tryz.f228.name, by decide, Tryz.func228.trans (congrArg some (by kernel_rfl))⟩,
  f50 := ⟨Tryz.f229.name, by decide, Tryz.func229.trans (congrArg some (by kernel_rfl))⟩,
  f57 := ⟨Tryz.f232.name, by decide, Tryz.func232.trans (congrArg some (by kernel_rfl))⟩,
  t0 := Tryz.underlying0,
  a0 := Tryz.isAgg0,
  z0 := Tryz.sizeOf0,
  v0 := Tryz.zeroValue0,
  t3 := Tryz.underlying3,
  a3 := Tryz.isAgg3,
  z3 := Tryz.sizeOf3,
  v3 := Tryz.zeroValue3,
  t4 := Tryz.underlying4,
  a4 := Tryz.isAgg4,
  z4 := Tryz.sizeOf4,
  v4 := Tryz.zeroValue4,
  t5 := Tryz.underlying5,
  a5 := Tryz.isAgg5,
  z5 := Tryz.sizeOf5,
  v5 := Tryz.zeroValue5,
  t9 := Tryz.underlying9,
  a9 := Tryz.isAgg9,
  z9 := Tryz.sizeOf9,
  v9 := Tryz.zeroValue9,
  t22 := Tryz.underlying59,
  a22 := Tryz.isAgg59,
  z22 := Tryz.sizeOf59,
  v22 := Tryz.zeroValue59,
  t25 := Tryz.underlying191,
  a25 := Tryz.isAgg191,
  z25 := Tryz.sizeOf191,
  v25 := Tryz.zeroValue191,
  t39 := Tryz.underlying205,
  a39 := Tryz.isAgg205,
  z39 := Tryz.sizeOf205,
  v39 := Tryz.zeroValue205,
  t45 := Tryz.underlying220,
  a45 := Tryz.isAgg220,
  z45 := Tryz.sizeOf220,
  v45 := Tryz.zeroValue220,
  t46 := Tryz.underlying221,
  a46 := Tryz.isAgg221,
  z46 := Tryz.sizeOf221,
  v46 := Tryz.zeroValue221,
  t50 := Tryz.underlying137,
  a50 := Tryz.isAgg137,
  z50 := Tryz.sizeOf137,
  v50 := Tryz.zeroValue137,
  t53 := Tryz.underlying228,
  a53 := Tryz.isAgg228,
  z53 := Tryz.sizeOf228,
  v53 := Tryz.zeroValue228,
  t55 := Tryz.underlying230,
  a55 := Tryz.isAgg230,
  z55 := Tryz.sizeOf230,
  v55 := Tryz.zeroValue230,
  t66 := Tryz.underlying252,
  a66 := Tryz.isAgg252,
  z66 := Tryz.sizeOf252,
  v66 := Tryz.zeroValue252,
  t70 := Tryz.underlying256,
  a70 := Tryz.isAgg256,
  z70 := Tryz.sizeOf256,
  v70 := Tryz.zeroValue256,
  t76 := Tryz.underlying267,
  a76 := Tryz.isAgg267,
  z76 := Tryz.sizeOf267,
  v76 := Tryz.zeroValue267,
  t77 := Tryz.underlying63,
  a77 := Tryz.isAgg63,
  z77 := Tryz.sizeOf63,
  v77 := Tryz.zeroValue63 }

theorem sortsN (m : Nat) : AnyZI.SortsIn Tryz.prog sortedN_ren Fence.wide m :=
  ⟨fun blk off cap ss W hH hblk hsz => callsIn_wide.2 (AnyM.slices_Sort_int sortN blk off cap ss W hH hblk hsz), fun p cap W => callsIn_wide.2 (AnyM.slices_Sort_int_none sortN p cap W)⟩
theorem mapsKeysN (b : Nat) (w : World) : Calls Tryz.prog 90 #[.map (some b)] w fun e w' => e = .returned (.func (.func 136) #[] #[.pointer (some ⟨w.heap.size, 0, none⟩)]) ∧ w' = w.alloc (.cells #[.map (some b)] 151) :=
  callsIn_wide.1 (AnyZI.keys_in keysN Fence.wide 5 trivial rfl (some b) w)
theorem ownsRow_idsN {w : World} {base : Nat} {v : Value} {ss : List Int} {n : Nat} (hn : n = ss.length) (h : w.ownsRow base 3 1 v n (ss.map encZ)) : IdsR (fun x => base ≤ x) w v ss := by
  subst hn
  have key : ∃ ob, OwnS w 3 1 v ss.length (ss.map (Value.int .i64 ·)) ob ∧ ∀ g, ob = some g → base ≤ g := by
    rcases h.2 with ⟨rfl, h0⟩ | ⟨g, cap, cur, rfl, hb, hg, h1, h2, h3, h4⟩
    · exact ⟨none, ⟨h.1, .inl ⟨none, rfl, h0, rfl, by simp⟩⟩, by simp⟩
    · exact ⟨some g, ⟨h.1, .inr ⟨g, cap, cur, rfl, rfl, hg, h1, h2, h3, h4⟩⟩, fun x hx => by cases hx; exact hb⟩
  obtain ⟨ob, h1, h2⟩ := key
  have h3 : OwnL w 3 1 (fun n r => r = [Value.int .i64 n]) v ss ob := ⟨ss.map (fun n => [.int .i64 n]), by simp, fun k x r hx hr => by
    rw [List.getElem?_map, hx] at hr
    simp only [Option.map_some, Option.some.injEq] at hr
    subst hr
    exact ⟨rfl, rfl⟩, by
    have e : (ss.map fun n => [Value.int .i64 n]).flatten = ss.map (.int .i64 ·) := by
      clear h1 h2 h
      induction ss with
      | nil => rfl
      | cons a t ih => simp [ih]
    rw [e]; exact h1⟩
  exact h3.toSl h2
set_option maxRecDepth 100000 in
set_option maxHeartbeats 2000000 in
theorem slicesSortedN (b n : Nat) (f : Int → Option Value) (w : World) (h : MapI w b f n) (hn : n ≤ 4096) (hw : ∀ x, f x ≠ none → (Lit.int .i64 x).wf = true) :
    Calls Tryz.prog 89 #[.func (.func 136) #[] #[.pointer (some ⟨w.heap.size, 0, none⟩)]] (w.alloc (.cells #[.map (some b)] 151)) fun e w' => ∃ v L, e = .returned v ∧ RSet L (fun y => f y ≠ none) ∧ IdsR (fun x => w.heap.size ≤ x) w' v L ∧ Grow w w' := by
  have hmx : n ≤ maxLen := by unfold maxLen; omega
  obtain ⟨D0, hown, hsz, hk⟩ := h.owns (P := Tryz.prog) (k := 3) Tryz.underlying3 hmx hw
  have hseq : SeqGives Fence.wide 2 Tryz.prog 136 #[.pointer (some ⟨w.heap.size, 0, none⟩)] encZ (fun ss => ss.Perm (intKeys D0)) (Maps.size D0) (w.alloc (.cells #[.map (some b)] 151)) :=
    AnyZI.keys_gives (ρ := keysN_ren) { keysN with } Fence.wide _ trivial rfl (by omega) w.heap.size b n D0 _ (by simp) (by simp) (hown.alloc _)
  have cS := AnyZI.sorted_in sortedN Fence.wide 5 trivial trivial trivial trivial rfl (by omega) (sortsN _) (enters_of Tryz.func135 (by kernel_rfl) rfl) 136 #[.pointer (some ⟨w.heap.size, 0, none⟩)] trivial (enters_of Tryz.func136 (by kernel_rfl) rfl) _ _ (Nat.le_trans hsz hmx) (by omega) _ hseq
  refine (callsIn_wide.1 cS).mono ?_
  rintro e w' ⟨v, ss, rfl, hS, hrow, -, hb⟩
  obtain ⟨h1, h2⟩ := hk ss hS
  refine ⟨v, _, rfl, rset_sorted h1 h2, (ownsRow_idsN (by simp) hrow).sub (fun x hx => by simp at hx; omega) (fun _ _ _ h => h), ?_⟩
  exact ((Grow.rfl' w).allocd _).step hb
end Go.Hg

namespace Go.Hg
open Go.RowKit Go.Proofs Go.Sort Go.Shelf

def cmpSp (a b : PSpot) : Int := if ltSp a b then -1 else if ltSp b a then 1 else 0
theorem cmpSp_lt (a b : PSpot) : ltOf cmpSp a b = ltSp a b := by
  unfold ltOf cmpSp
  cases ltSp a b
  · cases ltSp b a <;> rfl
  · rfl
theorem swoSp : SWO (ltOf cmpSp) where
  irrefl x := by rw [cmpSp_lt, ltSp_irrefl]
  trans x y z h1 h2 := by rw [cmpSp_lt] at *; exact ltSp_trans h1 h2
  ntrans x y z h1 h2 := by
    rw [cmpSp_lt] at *
    cases h3 : ltSp x z
    · rfl
    · cases h4 : ltSp z y
      · have := ltSp_total h2 h4; subst this; rw [h1] at h3; cases h3
      · have := ltSp_trans h3 h4; rw [h1] at this; cases this
def Laid (w w' : World) : Prop := ∃ q os, w' = grow (w.drewN q) os
theorem Laid.rfl' (w : World) : Laid w w := ⟨0, #[], by unfold grow World.drewN; simp⟩
theorem Laid.trans {a b c : World} (h : Laid a b) (k : Laid b c) : Laid a c := by
  obtain ⟨q, os, rfl⟩ := h
  obtain ⟨q', os', rfl⟩ := k
  refine ⟨q + q', os ++ os', ?_⟩
  unfold grow World.drewN
  simp [Nat.add_assoc]
theorem Laid.alloc (w : World) (o : Obj) : Laid w (w.alloc o) := ⟨0, #[o], by unfold grow World.drewN World.alloc; simp⟩
theorem Laid.drew (w : World) : Laid w w.drew := ⟨1, #[], by unfold grow World.drewN World.drew; simp⟩

def cmpZ (a b : Int) : Int := if a < b then -1 else if b < a then 1 else 0
def cmpS (a b : ByteArray) : Int := if ltS a b then -1 else if ltS b a then 1 else 0
def or3 (x y z : Int) : Int := if x ≠ 0 then x else if y ≠ 0 then y else z
theorem cmpSp_eq (a b : PSpot) : cmpSp a b = or3 (cmpZ a.kind b.kind) (cmpS a.typ b.typ) (cmpS a.name b.name) := by
  unfold or3
  have hz : cmpZ a.kind b.kind = 0 ↔ a.kind = b.kind := by
    unfold cmpZ
    split
    · simp; omega
    · split
      · simp; omega
      · simp; omega
  have hs : ∀ x y : ByteArray, cmpS x y = 0 ↔ x = y := fun x y => by
    unfold cmpS
    constructor
    · intro h
      cases h1 : ltS x y
      · cases h2 : ltS y x
        · exact ltS_total h1 h2
        · simp [h1, h2] at h
      · simp [h1] at h
    · rintro rfl
      simp [ltS_irrefl]
  by_cases h1 : a.kind = b.kind
  · have h1' := hz.2 h1
    rw [if_neg (by simp [h1'])]
    by_cases h2 : a.typ = b.typ
    · have h2' := (hs _ _).2 h2
      rw [if_neg (by simp [h2'])]
      unfold cmpSp cmpS ltSp
      simp [h1, h2, ltS_irrefl]
    · have h2' : cmpS a.typ b.typ ≠ 0 := fun h => h2 ((hs _ _).1 h)
      rw [if_pos h2']
      unfold cmpSp cmpS ltSp
      simp [h1, h2, Ne.symm h2]
  · have h1' : cmpZ a.kind b.kind ≠ 0 := fun h => h1 (hz.1 h)
    rw [if_pos h1']
    unfold cmpSp cmpZ ltSp
    simp [h1, Ne.symm h1]

set_option maxRecDepth 100000 in
theorem nanI (x : Int) (w : World) : Calls Tryz.prog 168 #[.int .i64 x] w fun e w' => e = .returned (.bool false) ∧ w' = w := by
  go_enter Tryz.func168, Tryz.ntmps168
  go_wp2
  go_ret
  exact ⟨by simp, rfl⟩
set_option maxRecDepth 100000 in
theorem nanS (x : ByteArray) (w : World) : Calls Tryz.prog 169 #[.string x] w fun e w' => e = .returned (.bool false) ∧ w' = w := by
  go_enter Tryz.func169, Tryz.ntmps169
  go_wp2
  go_ret
  exact ⟨by simp, rfl⟩
set_option maxRecDepth 100000 in
theorem cmpCompareI (a b : Int) (w : World) : Calls Tryz.prog 132 #[.int .i64 a, .int .i64 b] w fun e w' => e = .returned (.int .i64 (cmpZ a b)) ∧ w' = w := by
  unfold cmpZ
  go_enter Tryz.func132, Tryz.ntmps132
  go_wp2_with fail
  refine (nanI a w).mono ?_
  rintro e w2 ⟨rfl, rfl⟩
  go_wp2_with fail
  refine (nanI b w2).mono ?_
  rintro e w3 ⟨rfl, rfl⟩
  by_cases h1 : a < b
  · go_wp2
    go_ret
    exact ⟨by simp, rfl⟩
  · by_cases h2 : b < a
    · go_wp2
      go_ret
      exact ⟨by simp, rfl⟩
    · go_wp2
      go_ret
      exact ⟨by simp, rfl⟩
set_option maxRecDepth 100000 in
theorem cmpCompareS (a b : ByteArray) (w : World) : Calls Tryz.prog 133 #[.string a, .string b] w fun e w' => e = .returned (.int .i64 (cmpS a b)) ∧ w' = w := by
  unfold cmpS
  obtain ⟨s1, hs1⟩ : ∃ x, Op.bytesLess a.toList b.toList = x := ⟨_, rfl⟩
  obtain ⟨s2, hs2⟩ : ∃ x, Op.bytesLess b.toList a.toList = x := ⟨_, rfl⟩
  have e1 : ltS a b = s1 := hs1
  have e2 : ltS b a = s2 := hs2
  rw [e1, e2]
  go_enter Tryz.func133, Tryz.ntmps133
  go_wp2_with fail
  refine (nanS a w).mono ?_
  rintro e w2 ⟨rfl, rfl⟩
  go_wp2_with fail
  refine (nanS b w2).mono ?_
  rintro e w3 ⟨rfl, rfl⟩
  cases s1
  · by_cases hab : a = b
    · have h0 : s2 = false := by rw [← e2, hab]; exact ltS_irrefl _
      subst h0
      have hd : decide (a = b) = true := decide_eq_true hab
      clear hab
      go_wp2
      go_ret
      exact ⟨by simp, rfl⟩
    · have h0 : s2 = true := by
        cases s2
        · exact absurd (ltS_total e1 e2) hab
        · rfl
      subst h0
      have hd : decide (a = b) = false := decide_eq_false hab
      clear hab
      go_wp2
      go_ret
      exact ⟨by simp, rfl⟩
  · go_wp2
    go_ret
    exact ⟨by simp, rfl⟩
set_option maxRecDepth 100000 in
set_option maxHeartbeats 1000000 in
theorem cmpOr3 (x y z : Int) (bb off : Nat) (w : World) (hb : bb < w.heap.size) (c0 : w.cell? ⟨bb, off, none⟩ = some (.int .i64 x)) (c1 : w.cell? ⟨bb, off + 1, none⟩ = some (.int .i64 y)) (c2 : w.cell? ⟨bb, off + 2, none⟩ = some (.int .i64 z)) :
    Calls Tryz.prog 131 #[.slice (some ⟨bb, off, none⟩) 3 3] w fun e w' => e = .returned (.int .i64 (or3 x y z)) ∧ w' = w := by
  have HX := Lib.hid (show ∀ k : Nat, k < 3 → ∃ u : Int, w.cell? ⟨bb, off + k, none⟩ = some (.int .i64 u) ∧ ((k = 0 → u = x) ∧ (k = 1 → u = y) ∧ (k = 2 → u = z)) from fun k hk => by
    match k, hk with
    | 0, _ => exact ⟨x, c0, by simp⟩
    | 1, _ => exact ⟨y, c1, by simp⟩
    | 2, _ => exact ⟨z, c2, by simp⟩)
  clear c0 c1 c2
  go_enter Tryz.func131, Tryz.ntmps131
  go_wp2
  go_loopg [8] 3 (fun g i wr => ∃ k : Nat, k ≤ 3 ∧ g = 3 - k ∧ i = .int .i64 k ∧ (0 < k → x = 0) ∧ (1 < k → y = 0) ∧ (2 < k → z = 0) ∧ wr = w)
  case atStart => exact ⟨0, by omega, by omega, rfl, by omega, by omega, by omega, rfl⟩
  case round =>
    obtain ⟨k, hk, rfl, rfl, h0, h1, h2, rfl⟩ := hrel
    have HH := Lib.hid (And.intro h0 (And.intro h1 h2))
    clear h0 h1 h2
    by_cases hkl : k < 3
    · obtain ⟨u, hu, hv⟩ := HX.out k hkl
      have HV := Lib.hid hv
      clear hv
      by_cases hu0 : u = 0
      · subst hu0
        go_wp2
        go_roundg (3 - (k + 1))
        case measure => omega
        case rel =>
          have hv := HV.out; have hh := HH.out
          refine ⟨k + 1, by omega, rfl, by go_num, fun _ => ?_, fun _ => ?_, fun _ => ?_, rfl⟩
          · by_cases e : k = 0
            · exact (hv.1 e).symm
            · exact hh.1 (by omega)
          · by_cases e : k = 1
            · exact (hv.2.1 e).symm
            · exact hh.2.1 (by omega)
          · by_cases e : k = 2
            · exact (hv.2.2 e).symm
            · exact hh.2.2 (by omega)
      · have hub : (u == 0) = false := by simpa using hu0
        have hub2 : (u != 0) = true := by simpa using hu0
        have HU := Lib.hid hu0
        clear hu0
        have HR := Lib.hid (show or3 x y z = u by
          have hv := HV.out; have hh := HH.out; have hu0 := HU.out
          have hk3 : k = 0 ∨ k = 1 ∨ k = 2 := by omega
          unfold or3
          rcases hk3 with e | e | e
          · have h0 := hv.1 e; rw [← h0, if_pos hu0]
          · have h0 := hv.2.1 e; rw [← h0, hh.1 (by omega), if_neg (by simp), if_pos hu0]
          · have h0 := hv.2.2 e; rw [← h0, hh.1 (by omega), hh.2.1 (by omega), if_neg (by simp), if_neg (by simp)])
        go_wp2
        go_ret
        exact ⟨by rw [HR.out]; rfl, rfl⟩
    · obtain rfl : k = 3 := by omega
      have HR := Lib.hid (show or3 x y z = 0 by
        have hh := HH.out
        rw [hh.1 (by omega), hh.2.1 (by omega), hh.2.2 (by omega)]
        rfl)
      go_wp2
      go_ret
      exact ⟨by rw [HR.out]; rfl, rfl⟩
end Go.Hg

namespace Go.Hg
open Go.RowKit Go.Proofs

theorem keySpot : KeyK Tryz.prog 136 PSpot.args := by
  refine keyK_struct3 (c0 := fun v : PSpot => .int .i64 v.kind) (c1 := fun v => .string v.typ) (c2 := fun v => .string v.name) Tryz.underlying136 (by kernel_rfl) (by decide) (by decide) (by decide) rfl rfl rfl (fun v => .inl ⟨_, rfl, Tryz.underlying3⟩) (fun v => .inr ⟨_, rfl, Tryz.underlying9⟩) (fun v => .inr ⟨_, rfl, Tryz.underlying9⟩) ?_
  intro a b h0 h1 h2
  cases a; cases b
  simp only [Value.int.injEq, Value.string.injEq, true_and] at h0 h1 h2
  rw [h0, h1, h2]

set_option maxRecDepth 100000 in
set_option maxHeartbeats 2000000 in
theorem dirtyAmong (S : Nat → Prop) (lv : Value) (l : List PSpot) (s : PSpot) (w : World) (hl : SpotsR S w lv l) :
    Calls Tryz.prog 88 #[s.args, lv] w fun e w' => e = .returned (.bool (decide (s ∈ l))) ∧ Grow w w' := by
  obtain ⟨al, cl, rfl, hll, hlc, hL⟩ := SlR.open hl
  unfold maxLen at hlc
  have HL := Lib.hid hL
  have HW := Lib.hid (show ∀ o1, Grow w (w.alloc o1) from fun o1 => (Grow.rfl' w).allocd o1)
  have HNB := Lib.hid (show ∀ o1 w', Grow (w.alloc o1) w' → w'.heap[w.heap.size]? = some o1 from fun o1 w' hg => by rw [hg.heapEq (by simp)]; exact heap_alloc_new w _)
  clear hl hL
  go_enter Tryz.func88, Tryz.ntmps88
  go_wp2
  obtain ⟨W1, hW1⟩ : ∃ W1, w.alloc (.cells #[.int .i64 s.kind, .string s.typ, .string s.name] 136) = W1 := ⟨_, rfl⟩
  have HB := Lib.hid (show ∀ w', Grow W1 w' → w'.heap[w.heap.size]? = some (.cells #[.int .i64 s.kind, .string s.typ, .string s.name] 136 (0, 0)) from fun w' g => HNB.out _ w' (hW1 ▸ g))
  have HG1 := Lib.hid (show Grow w W1 from hW1 ▸ HW.out _)
  rw [hW1]
  clear hW1
  go_loopg [9] l.length (fun g kv wr => ∃ k : Nat, k ≤ l.length ∧ g = l.length - k ∧ kv = .int .i64 k ∧ s ∉ l.take k ∧ Grow W1 wr)
  case atStart => exact ⟨0, by omega, by omega, rfl, by simp, Grow.rfl' W1⟩
  case round =>
    obtain ⟨k, hk, rfl, rfl, hno, hg⟩ := hrel
    have HNO := Lib.hid hno; have HG := Lib.hid hg
    have hbx := HB.out wr hg
    have hbl := blk_lt hbx
    have s0 : wr.cell? ⟨w.heap.size, 0, none⟩ = some (.int .i64 s.kind) := (blk_cell hbx _).trans rfl
    have s1 : wr.cell? ⟨w.heap.size, 1, none⟩ = some (.string s.typ) := (blk_cell hbx _).trans rfl
    have s2 : wr.cell? ⟨w.heap.size, 2, none⟩ = some (.string s.name) := (blk_cell hbx _).trans rfl
    clear hno hg hbx
    by_cases hkl : k < l.length
    · obtain ⟨ba, oa, ra, rfl, hSa, hba, hRa, hca⟩ := HL.out k l[k] (List.getElem?_eq_getElem hkl)
      obtain ⟨hal, a0, a1, a2⟩ := spotAt hRa hba (HG1.out.step HG.out) hca
      clear hca hRa hSa hba
      have HT := Lib.hid (show l.take (k + 1) = l.take k ++ [l[k]] from List.take_succ_eq_append_getElem hkl)
      have HM := Lib.hid (show l[k] ∈ l from List.getElem_mem hkl)
      generalize l[k] = x at *
      obtain ⟨b0, hb0⟩ : ∃ b, (s.kind == x.kind) = b := ⟨_, rfl⟩
      obtain ⟨b1, hb1⟩ : ∃ b, decide (s.typ = x.typ) = b := ⟨_, rfl⟩
      obtain ⟨b2, hb2⟩ : ∃ b, decide (s.name = x.name) = b := ⟨_, rfl⟩
      have HEQ := Lib.hid (show decide (s = x) = (b0 && (b1 && b2)) by
        rw [← hb0, ← hb1, ← hb2, int_beq]
        simp only [spot_eq, Bool.decide_and])
      have HSTEP := Lib.hid (show s ≠ x → s ∉ l.take (k + 1) from fun h => mem_take_snoc HT.out HNO.out h)
      have HYES := Lib.hid (show decide (s = x) = true → decide (s ∈ l) = true from fun h => decide_eq_true ((of_decide_eq_true h) ▸ HM.out))
      have HGR := Lib.hid (show ∀ o1, Grow W1 (wr.alloc o1) from fun o1 => HG.out.allocd o1)
      cases b0
      · have HX := Lib.hid (HSTEP.out (of_decide_eq_false (by rw [HEQ.out]; rfl)))
        go_wp2
        go_roundg (l.length - (k + 1))
        case measure => omega
        case rel => exact ⟨k + 1, by omega, rfl, by go_num, HX.out, HGR.out _⟩
      · cases b1
        · have HX := Lib.hid (HSTEP.out (of_decide_eq_false (by rw [HEQ.out]; rfl)))
          go_wp2
          go_roundg (l.length - (k + 1))
          case measure => omega
          case rel => exact ⟨k + 1, by omega, rfl, by go_num, HX.out, HGR.out _⟩
        · cases b2
          · have HX := Lib.hid (HSTEP.out (of_decide_eq_false (by rw [HEQ.out]; rfl)))
            go_wp2
            go_roundg (l.length - (k + 1))
            case measure => omega
            case rel => exact ⟨k + 1, by omega, rfl, by go_num, HX.out, HGR.out _⟩
          · have HX := Lib.hid (HYES.out (by rw [HEQ.out]; rfl))
            go_wp2
            go_ret
            exact ⟨by rw [HX.out]; rfl, HG1.out.step (HGR.out _)⟩
    · have hkk : l.take k = l := List.take_of_length_le (by omega)
      have HX := Lib.hid (show decide (s ∈ l) = false from decide_eq_false (hkk ▸ HNO.out))
      clear hkk
      go_wp2
      go_ret
      exact ⟨by rw [HX.out]; rfl, HG1.out.step HG.out⟩
theorem dirtyAmongB {S : Nat → Prop} {lv : Value} {l : List PSpot} {k : Int} {t n : ByteArray} {w : World} {b : Bool} (hl : SpotsR S w lv l) (hb : decide (PSpot.mk k t n ∈ l) = b) :
    Calls Tryz.prog 88 #[.agg #[.int .i64 k, .string t, .string n], lv] w fun e w' => e = .returned (.bool b) ∧ Grow w w' := by
  subst hb
  exact dirtyAmong S lv l ⟨k, t, n⟩ w hl
end Go.Hg

namespace Go.Hg
open Go.RowKit Go.Proofs MapKept Go.Maps Go.Sort Go.Shelf

attribute [local go_sem] Oper.semAt_some

structure RngK (w : World) (b r : Nat) (es : Array MapEntry) (clock : Nat) (xs : List MapEntry) : Prop where
  mp : w.heap[b]? = some (.map es clock)
  it : ∃ seen : Array Nat, w.heap[r]? = some (.mapIter (some b) clock seen clock) ∧ seen.toList = xs.map (·.born)
  sub : ∀ x ∈ xs, x ∈ es.toList
  nd : (xs.map (·.born)).Nodup
theorem RngK.of_walks {w w' : World} {b r : Nat} {es : Array MapEntry} {clock : Nat} {xs : List MapEntry} (h : RngK w b r es clock xs) (hk : KeepsWalks w w') : RngK w' b r es clock xs := by
  obtain ⟨seen, h1, h2⟩ := h.it
  exact ⟨hk.same b _ h.mp rfl, ⟨seen, hk.same r _ h1 rfl, h2⟩, h.sub, h.nd⟩
theorem RngK.walk {w : World} {b r : Nat} {es : Array MapEntry} {clock : Nat} {xs : List MapEntry} (h : RngK w b r es clock xs) : ∃ o : Obj, w.heap[r]? = some o ∧ o.isWalk = true := by
  obtain ⟨seen, h1, _⟩ := h.it
  exact ⟨_, h1, rfl⟩
theorem bornsLe {α : Type} {l m : List α} (h : l.Nodup) (hs : ∀ x ∈ l, x ∈ m) : l.length ≤ m.length := by
  induction l generalizing m with
  | nil => simp
  | cons a t ih =>
    have ha := hs a (by simp)
    obtain ⟨p, q, rfl⟩ := List.append_of_mem ha
    have h2 := List.nodup_cons.1 h
    have := ih (m := p ++ q) h2.2 (fun x hx => by
      have h3 := hs x (by simp [hx])
      simp only [List.mem_append, List.mem_cons] at h3 ⊢
      rcases h3 with h3 | rfl | h3
      · exact .inl h3
      · exact absurd hx h2.1
      · exact .inr h3)
    simp at this ⊢
    omega
theorem RngK.len {w : World} {b r : Nat} {es : Array MapEntry} {clock : Nat} {xs : List MapEntry} (h : RngK w b r es clock xs) : xs.length ≤ es.size := by
  have := bornsLe h.nd (m := es.toList.map (·.born)) (fun x hx => by
    obtain ⟨y, hy, rfl⟩ := List.mem_map.1 hx
    exact List.mem_map.2 ⟨y, h.sub y hy, rfl⟩)
  simpa using this
theorem RngK.all {w : World} {b r : Nat} {es : Array MapEntry} {clock : Nat} {xs : List MapEntry} (h : RngK w b r es clock xs) (hs : Stamped es clock) {seen : Array Nat} (hi : w.heap[r]? = some (.mapIter (some b) clock seen clock)) (hl : (leftOf es seen).size = 0) : ∀ x ∈ es.toList, x ∈ xs := by
  obtain ⟨seen', h1, h4⟩ := h.it
  rw [hi] at h1
  simp only [Option.some.injEq, Obj.mapIter.injEq, true_and, and_true] at h1
  subst h1
  intro x hx
  have hb : x.born ∈ seen.toList := by
    by_cases hc : x.born ∈ seen.toList
    · exact hc
    · exfalso
      have : x ∈ leftOf es seen := by unfold leftOf; simp; exact ⟨by simpa using hx, by simpa using hc⟩
      have := Array.size_pos_of_mem this
      omega
  rw [h4] at hb
  obtain ⟨y, hy, hyx⟩ := List.mem_map.1 hb
  have hy2 := h.sub y hy
  obtain ⟨i, hi', e1⟩ := List.getElem_of_mem hx
  obtain ⟨j, hj', e2⟩ := List.getElem_of_mem hy2
  have hij : i = j := by
    have hn := hs.2.1
    exact (List.getElem_inj (h₀ := by simpa using hi') (h₁ := by simpa using hj') hn).1 (by simp [e1, e2, hyx])
  subst hij
  rw [e1] at e2
  rw [e2]; exact hy
section
variable {F : Fence} {n : Nat} {P : Program} (w : World) {ops : Array Oper} {rest : List Oper} {o : Oper} {a : Act} {Q : Exit → Act → World → Prop}
theorem wpListIn_range_K (hg : o.guard = none) (m : Operand) (t : TypeId) (hop : o.op = Op.range t m) (k e : TypeId) (ht : P.underlying t = some (.map k e)) (b : Nat) (es : Array MapEntry) (clock : Nat)
    (hm : a.eval m = .map (some b)) (hb : w.heap[b]? = some (.map es clock)) (_hs : Stamped es clock)
    (hK : ∀ w', RngK w' b w.heap.size es clock [] → w.grownBy w' none → w'.heap.size = w.heap.size + 1 → wpListIn F n P ops Q rest (a.put o.dst (.pointer (some ⟨w.heap.size, 0, none⟩))) w') :
    wpListIn F n P ops Q (o :: rest) a w := by
  refine wpListIn_plain hg fun K' hK' => ?_
  have hrun := run_range_map (P := P) w t k e b es clock ht hb
  unfold Oper.wpIn
  refine ⟨?_, ?_⟩
  · simp [Oper.about, hop]
  · rw [Oper.semAt_plain F _ _ (by rw [hop]; intro c hc'; cases hc')]
    simp [execOp, hop, hm, hrun, Result.andThen]
    refine hK' _ _ (hK _ ⟨?_, ⟨#[], heap_alloc_new _ _, rfl⟩, by simp, by simp⟩ (World.grownBy_alloc _ _ _) (by simp))
    exact (((Grow.rfl' w).allocd _).heapEq ((Array.getElem?_eq_some_iff.1 hb).1)).trans hb
theorem wpListIn_next_K (hg : o.guard = none) (it : Operand) (hop : o.op = Op.next it false) (b r : Nat) (es : Array MapEntry) (clock : Nat) (xs : List MapEntry) (hs : Stamped es clock)
    (hit : a.eval it = .pointer (some ⟨r, 0, none⟩)) (h : RngK w b r es clock xs)
    (hDone : (∀ x ∈ es.toList, x ∈ xs) → wpListIn F n P ops Q rest (a.put o.dst (.tuple #[.bool false])) w)
    (hMore : ∀ (x : MapEntry) (w' : World), RngK w' b r es clock (xs ++ [x]) → xs.length < es.size → w.grownBy w' (some r) → w'.heap.size = w.heap.size → (Instr.entry (.pointer (some ⟨r, 0, none⟩))).run P w' = .ok (.tuple #[x.key, x.val]) w' → wpListIn F n P ops Q rest (a.put o.dst (.tuple #[.bool true, x.key, x.val])) w') :
    wpListIn F n P ops Q (o :: rest) a w := by
  refine wpListIn_plain hg fun K' hK' => ?_
  unfold Oper.wpIn
  refine ⟨by simp [Oper.about, hop], ?_⟩
  rw [Oper.semAt_plain F _ _ (by rw [hop]; intro c hc'; cases hc')]
  obtain ⟨seen, hr, hseen⟩ := h.it
  rcases run_next_at (P := P) w o.type r b clock clock seen es clock hr h.mp hs.1 (Nat.le_refl _) with ⟨h0, hrun⟩ | ⟨x, hx, w1, hw1, hrun⟩
  · simp [execOp, hop, hit, hrun, Result.andThen]
    exact hK' _ _ (hDone (h.all hs hr h0))
  · simp [execOp, hop, hit, hrun, Result.andThen]
    have hw1h : w1.heap = w.heap := by rcases hw1 with rfl | rfl <;> rfl
    have hrl : r < w1.heap.size := by rw [hw1h]; exact (Array.getElem?_eq_some_iff.1 hr).1
    have hbr : b ≠ r := fun e => by subst e; have := h.mp; rw [hr] at this; cases this
    unfold leftOf at hx
    simp only [Array.toList_filter, List.mem_filter] at hx
    have hxs : x.born ∉ xs.map (·.born) := by rw [← hseen]; have := hx.2; simpa using this
    obtain ⟨w2, hw2⟩ : ∃ w2, ChangeMaps.setBlock w1 r (.mapIter (some b) clock (seen.push x.born) clock) = w2 := ⟨_, rfl⟩
    have hh : w2.heap = w.heap.setIfInBounds r (.mapIter (some b) clock (seen.push x.born) clock) := by rw [← hw2, ← hw1h]; rfl
    have hne : ∀ k, k ≠ r → w2.heap[k]? = w.heap[k]? := fun k hk => by rw [hh, Array.getElem?_setIfInBounds_ne (Ne.symm hk)]
    have hsame : w2.heap[r]? = some (.mapIter (some b) clock (seen.push x.born) clock) := by rw [hh, Array.getElem?_setIfInBounds_self_of_lt (by rw [← hw1h]; exact hrl)]
    have hR : RngK w2 b r es clock (xs ++ [x]) := by
      refine ⟨(hne b hbr).trans h.mp, ⟨_, hsame, by simp [hseen]⟩, ?_, ?_⟩
      · intro y hy
        rcases List.mem_append.1 hy with hy | hy
        · exact h.sub y hy
        · simp at hy; subst hy; exact hx.1
      · rw [List.map_append, List.nodup_append]
        refine ⟨h.nd, by simp, ?_⟩
        intro u hu v hv e
        simp at hv
        subst hv
        exact hxs (e ▸ hu)
    rw [hw2]
    refine hK' _ _ (hMore x _ hR ?_ ?_ ?_ ?_)
    · have := hR.len; simp at this; omega
    · have hb : ∀ k, k < w.heap.size → some k ≠ some r → w2.heap[k]? = w.heap[k]? := fun k _ hn => hne k (fun e => hn (by rw [e]))
      have hsz : w.heap.size ≤ w2.heap.size := by rw [hh]; simp
      rw [← hw2] at hb hsz ⊢
      rcases hw1 with rfl | rfl <;> exact ⟨rfl, rfl, rfl, hsz, hb⟩
    · rw [hh]; simp
    · exact run_entry_at w2 r b clock seen es clock x hsame ((hne b hbr).trans h.mp) hx.1 hs.2.1
end
def seenLeft (w : World) (r n : Nat) : Nat := match w.heap[r]? with
  | some (.mapIter _ _ seen _) => n - seen.size
  | _ => 0
theorem RngK.left_eq {w : World} {b r : Nat} {es : Array MapEntry} {clock : Nat} {xs : List MapEntry} (h : RngK w b r es clock xs) : seenLeft w r es.size = es.size - xs.length := by
  obtain ⟨seen, h1, h2⟩ := h.it
  unfold seenLeft
  rw [h1]
  have : seen.size = xs.length := by rw [← Array.length_toList, h2, List.length_map]
  simp [this]
theorem RngK.alloc {w : World} {b r : Nat} {es : Array MapEntry} {clock : Nat} {xs : List MapEntry} (h : RngK w b r es clock xs) (o : Obj) : RngK (w.alloc o) b r es clock xs := h.of_walks (KeepsWalks.alloc _ _)
theorem keys_done {es : Array MapEntry} {clock : Nat} {xs : List MapEntry} {ss : List PSpot} (hs : Stamped es clock) (hsub : ∀ x ∈ xs, x ∈ es.toList) (hn : (xs.map (·.born)).Nodup) (hall : ∀ x ∈ es.toList, x ∈ xs) (he : xs.map (·.key) = ss.map PSpot.args) : (∀ k : PSpot, k ∈ ss ↔ ∃ x ∈ es.toList, x.key = k.args) ∧ ss.Nodup := by
  have hinj : ∀ a b : PSpot, a.args = b.args → a = b := fun a b h => by
    unfold PSpot.args at h
    simp only [Value.agg.injEq, Array.mk.injEq, List.cons.injEq, Value.int.injEq, Value.string.injEq, true_and, and_true] at h
    exact (spot_eq a b).2 h
  refine ⟨fun k => ⟨fun hk => ?_, fun ⟨x, hx, hxk⟩ => ?_⟩, ?_⟩
  · have : k.args ∈ xs.map (·.key) := by rw [he]; exact List.mem_map.2 ⟨k, hk, rfl⟩
    obtain ⟨x, hx, hxk⟩ := List.mem_map.1 this
    exact ⟨x, hsub x hx, hxk⟩
  · have : x.key ∈ ss.map PSpot.args := by rw [← he]; exact List.mem_map.2 ⟨x, hall x hx, rfl⟩
    obtain ⟨q, hq, hqk⟩ := List.mem_map.1 this
    rw [hxk] at hqk
    rw [← hinj q k hqk]; exact hq
  · have hkn : (xs.map (·.key)).Nodup := by
      have hes : ∀ x ∈ es.toList, ∀ y ∈ es.toList, x.key = y.key → x = y := by
        intro x hx y hy e
        obtain ⟨i, hi, e1⟩ := List.getElem_of_mem hx
        obtain ⟨j, hj, e2⟩ := List.getElem_of_mem hy
        have hij : i = j := (List.getElem_inj (h₀ := by simpa using hi) (h₁ := by simpa using hj) hs.2.2).1 (by simp [e1, e2, e])
        subst hij
        rw [← e1, ← e2]
      clear he hall
      induction xs with
      | nil => simp
      | cons x t ih =>
        simp only [List.map_cons, List.nodup_cons] at hn ⊢
        refine ⟨fun hc => ?_, ih (fun y hy => hsub y (by simp [hy])) hn.2⟩
        obtain ⟨y, hy, hyx⟩ := List.mem_map.1 hc
        have := hes y (hsub y (by simp [hy])) x (hsub x (by simp)) hyx
        subst this
        exact hn.1 (List.mem_map.2 ⟨y, hy, rfl⟩)
    rw [he] at hkn
    exact (List.pairwise_map.1 hkn).imp fun h e => h (congrArg _ e)
set_option maxRecDepth 100000 in
set_option maxHeartbeats 2000000 in
theorem keysSp1 (F : Fence) (n : Nat) (h10 : F.fn 167) (hro : F.round = none) (hn : 1 ≤ n) (l Bm b : Nat) (es : Array MapEntry) (clock : Nat) (hs : Stamped es clock) (hk : ∀ x ∈ es.toList, ∃ k : PSpot, x.key = k.args) (J : List PSpot → World → Prop)
    (hY : ∀ pre x W, J pre W → pre.length < es.size → YieldAt F (n - 1) Tryz.prog l #[PSpot.args x] W fun e W' => e = .returned (.bool true) ∧ J (pre ++ [x]) W' ∧ KeepsWalks W W')
    (W : World) (hJ : AbidesFrom W.heap.size J) (hm : W.cell? ⟨Bm, 0, none⟩ = some (.map (some b))) (hb : W.heap[b]? = some (.map es clock)) (h0 : J [] W) :
    CallsIn F n Tryz.prog 167 #[.func (.yield l) #[] #[], .pointer (some ⟨Bm, 0, none⟩)] W fun e W' => (∃ v, e = .returned v) ∧ ∃ ss : List PSpot, (∀ k : PSpot, k ∈ ss ↔ ∃ x ∈ es.toList, x.key = k.args) ∧ ss.Nodup ∧ J ss W' := by
  refine callsIn_of_wp Tryz.func167 rfl h10 ?_ hro
  simp only [Tryz.ntmps167, List.size_toArray, List.length_cons, List.length_nil, Nat.reduceAdd, Nat.reduceSub, Array.replicate_succ, Array.replicate_zero, List.push_toArray, List.append_toArray, List.nil_append, List.cons_append]
  gi_wp2_with (first
    | (gi_at_range; refine wpListIn_range_K _ rfl _ 148 rfl 136 3 Tryz.underlying148 b es clock rfl hb hs ?_; intro w0 hrg0 hg0 hs0)
    | gi_in)
  go_frame
  gi_loopw [3] (fun _ wr => ∃ (xs : List MapEntry) (ss : List PSpot), RngK wr b W.heap.size es clock xs ∧ xs.map (·.key) = ss.map PSpot.args ∧ J ss wr)
    (fun _ wr => seenLeft wr W.heap.size es.size)
  case atStart => exact ⟨[], [], hrg0, rfl, hJ [] W w0 none h0 hg0 (fun r e => by cases e)⟩
  case round =>
    obtain ⟨xs, ss, hrg, hke, hJs⟩ := hrel
    gi_wp2_with (first
      | (gi_at_next; refine wpListIn_next_K _ rfl _ rfl b W.heap.size es clock xs hs rfl hrg ?_ ?_)
      | gi_in)
    · intro hall
      gi_wp2
      go_end0
      obtain ⟨k1, k2⟩ := keys_done hs hrg.sub hrg.nd (fun x hx => hall x (by simpa using hx)) hke
      exact ⟨⟨_, rfl⟩, ss, k1, k2, hJs⟩
    · intro x w2 hrg2 hlt hg2 hs2 hen
      obtain ⟨k, hkx⟩ := hk x (hrg2.sub x (by simp))
      rw [hkx] at hen ⊢
      have hJ2 : J ss w2 := hJ ss wr w2 (some W.heap.size) hJs hg2 (fun r e => by cases e; exact ⟨Nat.le_refl _, hrg.walk⟩)
      have hJ3 : J ss (w2.alloc (.cells #[.int .i64 k.kind, .string k.typ, .string k.name] 136)) := hJ ss w2 _ none hJ2 (World.grownBy_alloc _ _ _) (fun r e => by cases e)
      have hlen : ss.length = xs.length := by have := congrArg List.length hke; simpa using this.symm
      obtain ⟨fn, tmps, assign, body, hy, hR⟩ := hY ss k _ hJ3 (by omega)
      clear hs2
      gi_wp2
      refine hR.mono ?_
      rintro e W3 ⟨rfl, hJ4, hk3⟩
      gi_wp2
      have hrg3 := (hrg2.alloc _).of_walks hk3
      go_roundw
      case rel => exact ⟨_, ss ++ [k], hrg3, by simp [hke, hkx], hJ4⟩
      case measure => rw [hrg3.left_eq, hrg.left_eq]; simp; omega
end Go.Hg

namespace Go.Hg
open Go.RowKit Go.Proofs Go.Maps Go.Sort Go.Shelf

attribute [local go_sem] Oper.semAt_some

theorem seqGives_keysSp (F : Fence) (n : Nat) (h10 : F.fn 167) (hro : F.round = none) (hn : 1 ≤ n) (Bm b : Nat) (es : Array MapEntry) (clock : Nat) (hs : MapKept.Stamped es clock) (hk : ∀ x ∈ es.toList, ∃ k : PSpot, x.key = k.args)
    (w : World) (hBm : Bm < w.heap.size) (hm : w.cell? ⟨Bm, 0, none⟩ = some (.map (some b))) (hb : w.heap[b]? = some (.map es clock)) :
    SeqGives F n Tryz.prog 167 #[.pointer (some ⟨Bm, 0, none⟩)] PSpot.args (fun ss => (∀ k : PSpot, k ∈ ss ↔ ∃ x ∈ es.toList, x.key = k.args) ∧ ss.Nodup) es.size w := fun l J W hW hJ hY h0 =>
  (keysSp1 F n h10 hro hn l Bm b es clock hs hk J hY W hJ ((hW.cell (p := ⟨Bm, 0, none⟩) hBm).trans hm) ((hW.block b (Array.getElem?_eq_some_iff.1 hb).1).trans hb) h0).mono fun _ _ ⟨h1, ss, h2, h3, h4⟩ => ⟨h1, ss, ⟨h2, h3⟩, h4⟩

section
variable {F : Fence} {n : Nat} {P : Program}
theorem wpIn_rangeFunc_box {α : Type} {g : Operand} {ps : Array Tmp} {assign body : Code} {Q : Exit → Act → World → Prop} {a : Act} {w : World}
    (hro : F.round = none) (h1 : 1 ≤ n) {gf : Nat} {lb : Array Value} (hg : a.eval g = .func (.func gf) #[] lb) (hFg : F.fn gf) (eg : ∀ args w, (callFunc gf args).run P w = .ok (.enter gf args) w)
    {enc : α → Value} {S : List α → Prop} {N : Nat} {w0 : World} (hseq : SeqGives F (n - 1) P gf lb enc S N w0) (hb0 : Below w0.heap.size w0 w) (hps : ∀ x, #[enc x].size = ps.size)
    (I : List α → World → Prop) (hI : OwnFrom w.heap.size I) (h0 : I [] w) (ob : α → Obj) (a₁ : α → Nat → Act)
    (hassign : ∀ (l : Nat) (x : α) (W : World) (K : Act → World → Prop), K (a₁ x W.heap.size) (W.alloc (ob x)) →
      assign.wpIn (F.inRound l) (n - 1 - 1) P (Exit.then K (fun _ _ _ => False)) { tmps := (ps.zip #[enc x]).foldl (fun t (p, v) => t.setIfInBounds p v) a.tmps, defers := [] } W)
    (hbody : ∀ (l : Nat) (pre : List α) (x : α) (W : World) (B : Nat), I pre W → pre.length < N → W.heap[B]? = some (ob x) → body.wpIn (F.inRound l) (n - 1 - 1) P (fun e _ W' => e = .normal ∧ KeepsOthers W W' ∧ I (pre ++ [x]) W') (a₁ x B) W)
    (hdone : ∀ (D : Nat) (xs : List α) (W : World), w.heap.size ≤ D → S xs → I xs W → W.heap[D]? = some (.deferred (some [])) → Q .normal { a with defers := { target := .collected D, args := #[] } :: a.defers } W) :
    (Code.rangeFunc g ps assign body).wpIn F n P Q a w := by
  refine wpIn_rangeFunc ?_
  intro fn hfn
  rw [hro]
  obtain ⟨rec, hrec⟩ : ∃ rec : LoopState → Option Code → Loop, rec = fun st pe => { state := st, pending := pe, fn, tmps := a.tmps, params := ps, assign, body, defers := w.heap.size } := ⟨_, rfl⟩
  obtain ⟨W1, hW1⟩ : ∃ W1, (w.alloc (.deferred (some []))).alloc (.loop (rec .ready none)) = W1 := ⟨_, rfl⟩
  have hL1 : W1.heap[w.heap.size + 1]? = some (.loop (rec .ready none)) := by
    rw [← hW1]; have := World.alloc_heap_new (w.alloc (.deferred (some []))) (.loop (rec .ready none)); rwa [World.size_alloc] at this
  have hK1 : W1.heap[w.heap.size]? = some (.deferred (some [])) := by
    rw [← hW1]; exact (Below.heap_alloc _ _ _ (by simp)).trans (World.alloc_heap_new w _)
  have hI1 : I [] W1 := by rw [← hW1]; exact hI.alloc _ (hI.alloc _ h0)
  have hb1 : Below w0.heap.size w0 W1 := by
    rw [← hW1]; exact hb0.trans ((((Below.refl _ w).alloc (Nat.le_refl _) _).alloc (by simp) _).mono hb0.size)
  refine ⟨w.heap.size + 1, [{ target := .collected w.heap.size, args := #[] }], W1, { target := .fn (.func gf) lb, args := #[.func (.yield (w.heap.size + 1)) #[] #[]] }, W1, gf,
    #[.func (.yield (w.heap.size + 1)) #[] #[]] ++ lb, W1, ?_, ?_, ?_, ?_, fun _ => h1, ?_⟩
  · rw [← hW1, hrec]; exact run_enterLoop_outer _ _ _ _ _
  · simp only [resolve, hg]
    simp [go_sem]
  · intro f' hf'; simp [Target.leads] at hf'; subst hf'; exact hFg
  · simp [invoke, go_sem, eg]
  · have hnw : ∀ {A B : World} {row : Option Nat}, (∀ r, row = some r → W1.heap.size ≤ r ∧ ∃ o : Obj, A.heap[r]? = some o ∧ o.isWalk = true) → (∀ r, row = some r → w.heap.size ≤ r ∧ ∃ o : Obj, A.heap[r]? = some o ∧ o.isCells = false) :=
      fun hr r e => by obtain ⟨hB, o, ho, hw⟩ := hr r e; exact ⟨by rw [← hW1] at hB; simp at hB; omega, o, ho, Obj.not_cells_of_walk hw⟩
    refine (hseq (w.heap.size + 1)
      (fun pre W => I pre W ∧ W.heap[w.heap.size + 1]? = some (.loop (rec .ready none)) ∧ W.heap[w.heap.size]? = some (.deferred (some [])))
      W1 hb1
      (fun s A B row hs hg' hr => ⟨hI s A B row hs.1 hg' (hnw (B := B) hr), (grownBy_keeps hg' (fun r e => (hr r e).2) hs.2.1 rfl).trans hs.2.1, (grownBy_keeps hg' (fun r e => (hr r e).2) hs.2.2 rfl).trans hs.2.2⟩)
      ?_ ⟨hI1, hL1, hK1⟩).mono ?_
    · rintro pre x W ⟨hi, hl0, hk0⟩ hlen
      have hy := run_yield (P := P) (args := #[enc x]) hl0 (by rw [hrec]; exact hps x)
      rw [hrec] at hy
      obtain ⟨Wa, hWa⟩ : ∃ Wa, W.alloc (ob x) = Wa := ⟨_, rfl⟩
      have hka : KeepsOthers W Wa := by rw [← hWa]; exact KeepsOthers.alloc _ _
      have hl : Wa.heap[w.heap.size + 1]? = some (.loop (rec .ready none)) := hka.same _ _ hl0 rfl
      have hk : Wa.heap[w.heap.size]? = some (.deferred (some [])) := hka.same _ _ hk0 rfl
      have hob : Wa.heap[W.heap.size]? = some (ob x) := by rw [← hWa]; exact World.alloc_heap_new _ _
      have hia : I pre Wa := by rw [← hWa]; exact hI.alloc _ hi
      have hlt : w.heap.size + 1 < Wa.heap.size := (Array.getElem?_eq_some_iff.1 hl).1
      have hlt0 : w.heap.size + 1 < W.heap.size := (Array.getElem?_eq_some_iff.1 hl0).1
      refine ⟨fn, _, assign, body, hy, roundIn_of_wpIn hfn (hassign _ x W _ ?_)⟩
      rw [hWa]
      refine ⟨_, run_beginRound hl (by rw [hrec]), ?_⟩
      have hl2 : (Wa.putObj (w.heap.size + 1) (.loop { rec .ready none with state := .busy })).heap[w.heap.size + 1]? = some (.loop { rec .ready none with state := .busy }) := World.putObj_heap_same hlt
      have hk2 : (Wa.putObj (w.heap.size + 1) (.loop { rec .ready none with state := .busy })).heap[w.heap.size]? = some (.deferred (some [])) := (World.putObj_heap_other (by omega)).trans hk
      have hw2 : KeepsWalks W (Wa.putObj (w.heap.size + 1) (.loop { rec .ready none with state := .busy })) := hka.walks.trans (KeepsWalks.putObj _ hl rfl)
      refine wpIn_mono (hbody _ pre x _ W.heap.size (hI.putObj _ hia (by omega) hl rfl) hlen ((World.putObj_heap_other (by omega)).trans hob)) ?_
      rintro e a3 W3 ⟨rfl, hko, hi3⟩
      have hl3 := hko.same _ _ hl2 rfl
      have hr := run_endRound (P := P) none hl3
      rw [hrec] at hr
      have hl4 := World.putObj_heap_same (w := W3) (o := .loop (rec .ready none)) (Array.getElem?_eq_some_iff.1 hl3).1
      refine ⟨_, _, hr, rfl, ⟨hI.putObj _ hi3 (by omega) hl3 rfl, by rw [hrec] at hl4; simpa [hrec] using hl4, (World.putObj_heap_other (by omega)).trans (hko.same _ _ hk2 rfl)⟩, (hw2.trans hko.walks).trans (KeepsWalks.putObj _ hl3 rfl)⟩
    · rintro e W2 ⟨⟨v, rfl⟩, xs, hS, hi, hl, hk⟩
      exact ⟨none, _, by have := run_endLoop (P := P) hl (by rw [hrec]; simp); rw [hrec] at this; exact this, hdone _ xs _ (Nat.le_refl _) hS (hI.putObj _ hi (by omega) hl rfl) ((World.putObj_heap_other (by omega)).trans hk)⟩
end
theorem cellsSp (w : World) (x : PSpot) : ∀ j u, x.cells[j]? = some u → (w.alloc (.cells #[.int .i64 x.kind, .string x.typ, .string x.name] 136)).cell? ((⟨w.heap.size, 0, none⟩ : Addr).add j) = some u := by
  intro j u hj
  have hb := World.alloc_heap_new w (.cells #[.int .i64 x.kind, .string x.typ, .string x.name] 136)
  match j, hj with
  | 0, hj => simp at hj; subst hj; exact (blk_cell hb 0).trans rfl
  | 1, hj => simp at hj; subst hj; exact (blk_cell hb 1).trans rfl
  | 2, hj => simp at hj; subst hj; exact (blk_cell hb 2).trans rfl
  | j + 3, hj => simp at hj
theorem oneSp (x : PSpot) : ∀ u ∈ x.cells, u.oneCell' = true := spotCells1 x
set_option maxRecDepth 100000 in
set_option maxHeartbeats 4000000 in
theorem appendSeqSp (F : Fence) (n : Nat) (h3 : F.fn 194) (hro : F.round = none) (hn : 3 ≤ n) (gf : Nat) (lb : Array Value) (hFg : F.fn gf) (eg : ∀ args w, (callFunc gf args).run Tryz.prog w = .ok (.enter gf args) w)
    (S : List PSpot → Prop) (N : Nat) (hN : N ≤ maxLen) (hNb : N * 40 ≤ 140737488355328) (w : World) (hseq : SeqGives F (n - 1) Tryz.prog gf lb PSpot.args S N w) :
    CallsIn F n Tryz.prog 194 #[.slice none 0 0, .func (.func gf) #[] lb] w fun e w' => ∃ (v : Value) (ss : List PSpot), e = .returned v ∧ S ss ∧ w'.ownsRow w.heap.size 136 3 v ss.length (ss.map PSpot.cells).flatten ∧ Below w.heap.size w w' := by
  have h1 : 1 ≤ n := by omega
  obtain ⟨i0, hi, hz0, hz1, hz2⟩ := info_parts infoSpot
  refine callsIn_of_wp_marks Tryz.func194 rfl h3 ?_ hro
  simp only [Tryz.ntmps194, List.size_toArray, List.length_cons, List.length_nil, Nat.reduceAdd, Nat.reduceSub, Array.replicate_succ, Array.replicate_zero, List.push_toArray, List.append_toArray, List.nil_append, List.cons_append]
  gi_wp2
  have bO := Boxed.new w 59 (.slice none 0 0)
  have hB0 : Below w.heap.size w (w.alloc (.cells #[.slice none 0 0] 59)) := (Below.refl _ w).alloc (Nat.le_refl _) _
  refine wpIn_rangeFunc_box hro h1 (gf := gf) (lb := lb) rfl hFg eg hseq hB0 (fun _ => rfl)
    (fun pre W => (∃ v, Boxed W w.heap.size 59 v ∧ W.ownsRow w.heap.size 136 3 v pre.length (pre.map PSpot.cells).flatten ∧ True) ∧ Below w.heap.size w W)
    (OwnFrom.and (Own.from (holdsRow_own w.heap.size w.heap.size 59 136 3 (fun pre : List PSpot => pre.length) (fun pre => (pre.map PSpot.cells).flatten) (fun _ _ => True)) _) (ownFrom_below (Nat.le_refl _) (by simp)))
    ⟨⟨_, bO, World.ownsRow_nil _ _ _ _, trivial⟩, hB0⟩
    (fun x => .cells #[.int .i64 x.kind, .string x.typ, .string x.name] 136 (0, 0))
    (fun x B => { tmps := #[.slice none 0 0, .func (.func gf) #[] lb, .pointer (some ⟨w.heap.size, 0, none⟩), undef, .slice none 0 0, .pointer (some ⟨B, 0, none⟩), .func (.func gf) #[] lb, x.args, undef, undef, undef, undef, undef], defers := [] }) ?assign ?body ?done
  case assign =>
    intro l x W K hK
    gi_wp2
    exact hK
  case body =>
    rintro l pre x W B ⟨⟨v, hv, hrow, -⟩, hB⟩ hlt hbx
    have hc := hv.cell
    have hbl := blk_lt hbx
    have d0 : W.cell? ⟨B, 0, none⟩ = some (.int .i64 x.kind) := (blk_cell hbx _).trans rfl
    have d1 : W.cell? ⟨B, 1, none⟩ = some (.string x.typ) := (blk_cell hbx _).trans rfl
    have d2 : W.cell? ⟨B, 2, none⟩ = some (.string x.name) := (blk_cell hbx _).trans rfl
    gi_wp2_with (gi_at_builtin; refine wpListIn_append_own _ rfl _ _ 59 rfl w.heap.size 136 i0 _ 3 40 Tryz.underlying59 hi hz0 hz1 hz2 rfl (by decide) _ _ _ rfl (hrow.alloc _) ⟨W.heap.size, 0, none⟩ 1 1 x.cells rfl rfl (cellsSp W x) (oneSp x) (by omega) (by omega) (by have := hB.size; simp; omega) ?_; intro v' w1 hown' hgrow _; obtain ⟨g', cap', rfl⟩ := ownsRow_succ hown'; obtain ⟨hv1, hv2, hr2, hk2, hb2⟩ := hv.appended (by decide) hrow hB.size (Nat.le_refl _) hown' hgrow; have hc1 := hv1.cell; have hf1 := hv1.frozen)
    · exact ⟨⟨_, hv2, hr2⟩, hB.trans hb2⟩
  case done =>
    rintro D ys W hD hS ⟨⟨v, hv, hrow, -⟩, hB⟩ hK
    have hc := hv.cell
    gi_wp2
    refine ⟨by simp, .inl ⟨_, _, rfl, run_takeDeferred hK, ?_⟩⟩
    exact ⟨_, results_tmp rfl _ _ _, v, ys, rfl, hS, ownsRow_putObj hrow _ hK rfl, hB.trans (belowK_b (w := w) (Nat.le_refl _) W D _ _ (by simp at hD; omega) hK rfl rfl)⟩

set_option maxRecDepth 100000 in
set_option maxHeartbeats 1000000 in
theorem collectSp (F : Fence) (n : Nat) (h8 : F.fn 165) (h3 : F.fn 194) (hro : F.round = none) (hn : 4 ≤ n) (gf : Nat) (lb : Array Value) (hFg : F.fn gf) (eg : ∀ args w, (callFunc gf args).run Tryz.prog w = .ok (.enter gf args) w)
    (S : List PSpot → Prop) (N : Nat) (hN : N ≤ maxLen) (hNb : N * 40 ≤ 140737488355328) (w : World) (hseq : SeqGives F (n - 1 - 1) Tryz.prog gf lb PSpot.args S N w) :
    CallsIn F n Tryz.prog 165 #[.func (.func gf) #[] lb] w fun e w' => ∃ (v : Value) (ss : List PSpot), e = .returned v ∧ S ss ∧ w'.ownsRow w.heap.size 136 3 v ss.length (ss.map PSpot.cells).flatten ∧ Below w.heap.size w w' := by
  refine callsIn_of_wp Tryz.func165 rfl h8 ?_ hro
  simp only [Tryz.ntmps165, List.size_toArray, List.length_cons, List.length_nil, Nat.reduceAdd, Nat.reduceSub, Array.replicate_succ, Array.replicate_zero, List.push_toArray, List.append_toArray, List.nil_append, List.cons_append]
  have h1 : 1 ≤ n := by omega
  gi_wp2_with (gi_at_call 194; refine (appendSeqSp F (n - 1) h3 hro (by omega) gf lb hFg eg S N hN hNb _ hseq).mono ?_; rintro e w' ⟨v, ss, rfl, hS, hrow, hb⟩)
  go_ret
  exact ⟨v, ss, rfl, hS, hrow, hb⟩
end Go.Hg

namespace Go.Hg
open Go.RowKit Go.Proofs Go.Sort Go.Shelf

abbrev SpC (w : World) (b : Nat) (s : PSpot) : Prop := b < w.heap.size ∧ w.cell? ⟨b, 0, none⟩ = some (.int .i64 s.kind) ∧ w.cell? ⟨b, 1, none⟩ = some (.string s.typ) ∧ w.cell? ⟨b, 2, none⟩ = some (.string s.name)
theorem spcAt {w w' : World} {b : Nat} {s : PSpot} (h : w.heap[b]? = some (.cells #[.int .i64 s.kind, .string s.typ, .string s.name] 136)) (g : Grow w w') : SpC w' b s := by
  have h2 : w'.heap[b]? = _ := (g.heapEq (blk_lt h)).trans h
  exact ⟨blk_lt h2, (blk_cell h2 _).trans rfl, (blk_cell h2 _).trans rfl, (blk_cell h2 _).trans rfl⟩
theorem three (w : World) (x y z : Int) (T : TypeId) : w.heap.size < (w.alloc (.cells #[.int .i64 x, .int .i64 y, .int .i64 z] T)).drew.heap.size ∧ (w.alloc (.cells #[.int .i64 x, .int .i64 y, .int .i64 z] T)).drew.cell? ⟨w.heap.size, 0, none⟩ = some (.int .i64 x) ∧ (w.alloc (.cells #[.int .i64 x, .int .i64 y, .int .i64 z] T)).drew.cell? ⟨w.heap.size, 0 + 1, none⟩ = some (.int .i64 y) ∧ (w.alloc (.cells #[.int .i64 x, .int .i64 y, .int .i64 z] T)).drew.cell? ⟨w.heap.size, 0 + 2, none⟩ = some (.int .i64 z) := by
  have hb := heap_alloc_new w (.cells #[.int .i64 x, .int .i64 y, .int .i64 z] T)
  have hb2 : (w.alloc (.cells #[.int .i64 x, .int .i64 y, .int .i64 z] T)).drew.heap[w.heap.size]? = _ := hb
  exact ⟨blk_lt hb2, (blk_cell hb2 _).trans rfl, (blk_cell hb2 _).trans rfl, (blk_cell hb2 _).trans rfl⟩

set_option maxRecDepth 100000 in
set_option maxHeartbeats 4000000 in
theorem sortedCmp (x y : PSpot) (w : World) : Calls Tryz.prog 130 #[x.args, y.args] w fun e w' => e = .returned (.int .i64 (cmpSp x y)) ∧ Laid w w' := by
  rw [cmpSp_eq]
  have HB1 := Lib.hid (fun w' => spcAt (w := w.alloc (.cells #[.int .i64 x.kind, .string x.typ, .string x.name] 136)) (w' := w') (s := x) (heap_alloc_new w _))
  have HB2 := Lib.hid (fun w' => spcAt (w := (w.alloc (.cells #[.int .i64 x.kind, .string x.typ, .string x.name] 136)).alloc (.cells #[.int .i64 y.kind, .string y.typ, .string y.name] 136)) (w' := w') (s := y) (heap_alloc_new _ _))
  rw [World.size_alloc] at HB2
  go_enter Tryz.func130, Tryz.ntmps130
  go_upto_region 1 with fail
  obtain ⟨w2, hw2⟩ : ∃ w2, (w.alloc (.cells #[.int .i64 x.kind, .string x.typ, .string x.name] 136)).alloc (.cells #[.int .i64 y.kind, .string y.typ, .string y.name] 136) = w2 := ⟨_, rfl⟩
  have HL := Lib.hid (show Laid w w2 by rw [← hw2]; exact (Laid.alloc _ _).trans (Laid.alloc _ _))
  have HS := Lib.hid (show ∀ w', Grow w2 w' → SpC w' w.heap.size x ∧ SpC w' (w.heap.size + 1) y from fun w' g => ⟨HB1.out w' (by rw [← hw2] at g; exact ((Grow.rfl' _).allocd _).step g), HB2.out w' (by rw [hw2]; exact g)⟩)
  rw [hw2]
  clear HB1 HB2 hw2
  have HD := Lib.hid (show Grow w2 w2.drew ∧ ∀ o1, Grow w2 (w2.alloc o1).drew from ⟨(Grow.rfl' w2).drewd, fun o1 => ((Grow.rfl' w2).allocd o1).drewd⟩)
  have HDL := Lib.hid (show ∀ o1, Laid w (w2.alloc o1).drew from fun o1 => (HL.out.trans (Laid.alloc _ _)).trans (Laid.drew _))
  go_region_held3 (fun w' => SpC w' w.heap.size x ∧ SpC w' (w.heap.size + 1) y) (first | exact HS.out _ HD.out.1 | exact HS.out _ (HD.out.2 _)) (first | (go_at_call 132; refine (cmpCompareI _ _ _).mono ?_; rintro e w' ⟨rfl, rfl⟩) | (go_at_call 133; refine (cmpCompareS _ _ _).mono ?_; rintro e w' ⟨rfl, rfl⟩) | (go_at_call 131; refine (cmpOr3 _ _ _ _ 0 _ (three _ _ _ _ _).1 (three _ _ _ _ _).2.1 (three _ _ _ _ _).2.2.1 (three _ _ _ _ _).2.2.2).mono ?_; rintro e w' ⟨rfl, rfl⟩))
  all_goals go_wp2
  all_goals go_ret
  all_goals exact ⟨rfl, HDL.out _⟩
end Go.Hg

namespace Go.Hg
open Go.RowKit Go.Proofs Go.Sort Go.Shelf Go.Maps

instance : Inhabited PSpot := ⟨⟨0, ByteArray.empty, ByteArray.empty⟩⟩

set_option maxRecDepth 100000 in
set_option maxHeartbeats 2000000 in
theorem insNone (p : Option Addr) (cap : Nat) (fv : Value) (w : World) :
    Calls Tryz.prog 214 #[.slice p 0 cap, .int .i64 0, .int .i64 0, fv] w fun e w' => e = .returned (.tuple #[]) ∧ w' = w := by
  go_enter Tryz.func214, Tryz.ntmps214
  go_wp2
  refine wp_loop_rounds 1 ?_
  rw [rounds_succ]
  go_wp2
  go_end0
  exact ⟨rfl, rfl⟩
set_option maxRecDepth 100000 in
set_option maxHeartbeats 2000000 in
theorem pdqNone (p : Option Addr) (cap : Nat) (lim : Int) (fv : Value) (w : World) :
    Calls Tryz.prog 195 #[.slice p 0 cap, .int .i64 0, .int .i64 0, .int .i64 lim, fv] w fun e w' => e = .returned (.tuple #[]) ∧ w' = w := by
  go_enter Tryz.func195, Tryz.ntmps195
  go_wp2
  refine wp_loop_rounds 1 ?_
  rw [rounds_succ]
  go_wp2_with (go_at_call 214; refine (insNone _ _ _ _).mono ?_; rintro e w' ⟨rfl, rfl⟩)
  (try simp only [Exit.inBlock, Exit.then]); refine bodyPost_ret (results_none rfl _ _ _) rfl ?_
  exact ⟨rfl, rfl⟩
set_option maxRecDepth 100000 in
set_option maxHeartbeats 2000000 in
theorem sortNone (p : Option Addr) (cap : Nat) (fv : Value) (w : World) :
    Calls Tryz.prog 166 #[.slice p 0 cap, fv] w fun e w' => e = .returned (.tuple #[]) ∧ w' = w := by
  have hl : ∀ W, Calls Tryz.prog 150 #[.int .u64 0] W fun e w' => e = .returned (.int .i64 (Lib.bitLen 0 : Nat)) ∧ w' = W := fun W => by
    have h := Any.bits_Len (SlLaysF0.n15.bits (P := Tryz.prog) (ρ := sortFS_ren) { sortFS with }) 0 W (by omega) (by omega)
    exact h
  go_enter Tryz.func166, Tryz.ntmps166
  go_wp2_with (first | (go_at_call 150; refine (hl _).mono ?_; rintro e w' ⟨rfl, rfl⟩) | (go_at_call 195; refine (pdqNone _ _ _ _ _).mono ?_; rintro e w' ⟨rfl, rfl⟩))
  go_end0
  exact ⟨rfl, rfl⟩

theorem holdsSp {w : World} {g : Nat} {cur : Array Value} {T : TypeId} {ss : List PSpot} (hb : w.heap[g]? = some (.cells cur T (0, 0))) (ht : cur.toList.take (ss.length * 3) = (ss.map PSpot.cells).flatten) : HoldsK PSpot.cells 3 w g 0 ss.toArray := by
  intro j hj
  have hj2 : j < ss.length * 3 := by simpa using hj
  have hk : j / 3 < ss.length := by omega
  have hm : j % 3 < (PSpot.cells ss[j / 3]).length := by show j % 3 < 3; omega
  rw [get_flatK _ _ _ j (by simpa using hj2)]
  have e1 : ss.toArray[j / 3]! = ss[j / 3] := by simp [hk]
  rw [e1]
  have e2 : (PSpot.cells ss[j / 3])[j % 3]? = some ((PSpot.cells ss[j / 3])[j % 3]!) := by rw [List.getElem?_eq_getElem hm, getElem!_pos (PSpot.cells ss[j / 3]) (j % 3) hm]
  have h6 := flatten_at (ss.map PSpot.cells) 3 (j / 3) (j % 3) (PSpot.cells ss[j / 3]) _ (by simp) (by simp [hk]) e2
  have e3 : j / 3 * 3 + j % 3 = j := by omega
  rw [e3, ← ht, List.getElem?_take, if_pos hj2] at h6
  refine ⟨?_, blk_free hb _⟩
  refine (blk_cell hb _).trans ?_
  rw [Nat.zero_add]
  simpa using h6
theorem holdsSpotsR {w : World} {g cap n : Nat} {d : Array PSpot} {S : Nat → Prop} (h : HoldsK PSpot.cells 3 w g 0 d) (hg : g < w.heap.size) (hS : S g) (hn : n = d.toList.length) (hc : n ≤ cap) (hm : cap ≤ maxLen) : SpotsR S w (.slice (some ⟨g, 0, none⟩) n cap) d.toList := by
  subst hn
  refine ⟨some ⟨g, 0, none⟩, cap, d.toList.map PSpot.cells, rfl, hc, hm, by simp, ?_, fun _ => ⟨g, 0, rfl, hS, hg, ?_⟩⟩
  · intro k x r hx hr
    rw [List.getElem?_map, hx] at hr
    simp only [Option.map_some, Option.some.injEq] at hr
    exact hr.symm
  · intro k r j c hr hj
    rw [List.getElem?_map] at hr
    obtain ⟨x, hx, rfl⟩ := Option.map_eq_some_iff.1 hr
    have hk : k < d.size := by have := (List.getElem?_eq_some_iff.1 hx).1; simpa using this
    have hj3 : j < 3 := (List.getElem?_eq_some_iff.1 hj).1
    have h1 := (h (k * 3 + j) (by simp; omega)).1
    rw [get_flatK _ _ _ _ (by omega), show (k * 3 + j) / 3 = k by omega, show (k * 3 + j) % 3 = j by omega] at h1
    have e1 : d[k]! = x := by
      rw [getElem!_pos d k hk]
      have := (List.getElem?_eq_some_iff.1 hx).2
      simpa using this
    rw [e1] at h1
    have e2 : (PSpot.cells x)[j]! = c := by
      have hl : j < (PSpot.cells x).length := hj3
      rw [getElem!_pos (PSpot.cells x) j hl]
      exact (List.getElem?_eq_some_iff.1 hj).2
    rw [e2] at h1
    rw [Nat.add_assoc]
    exact h1
theorem grownBy_sortedSp {w : World} {g n : Nat} {os : Array Obj} (d : Array PSpot) : w.grownBy (sortWorldK PSpot.cells 3 w g 0 n d os) (some g) := by
  unfold sortWorldK putRowK
  refine ⟨rfl, rfl, rfl, by simp, fun k hk hne => ?_⟩
  rw [heap_grow_old _ _ (by simpa using hk)]
  have : g ≠ k := fun e => hne (by rw [e])
  simp [putRow, mapBlock, Sort.ahead, Array.getElem?_modify, this]
theorem sortedPw {d d' : Array PSpot} (hp : PermIn 0 d.size d d') (hs : SortedIn (ltOf cmpSp) 0 d.size d') (hn : d.toList.Nodup) : d'.toList.Pairwise (fun a b => ltSp a b = true) ∧ ∀ x, x ∈ d'.toList ↔ x ∈ d.toList := by
  obtain ⟨h1, -, h2⟩ := hp
  have e1 : d.extract 0 d.size = d := by simp
  have e2 : d'.extract 0 d.size = d' := by rw [← h1]; simp
  rw [e1, e2] at h2
  have hn' : d'.toList.Nodup := h2.nodup_iff.2 hn
  refine ⟨?_, fun x => h2.mem_iff⟩
  rw [List.pairwise_iff_getElem]
  intro i j hi hj hij
  have h3 := hs i j (Nat.zero_le _) hij (by rw [← h1]; simpa using hj)
  rw [cmpSp_lt, getElem!_pos d' i (by simpa using hi), getElem!_pos d' j (by simpa using hj)] at h3
  have hne : d'.toList[i] ≠ d'.toList[j] := fun e => by
    have := (List.getElem_inj (h₀ := hi) (h₁ := hj) hn').1 e
    omega
  cases h4 : ltSp d'.toList[i] d'.toList[j]
  · exact absurd (ltSp_total h4 (by simpa using h3)) hne
  · rfl
theorem sortFuncSp (base : Nat) (v : Value) (ss : List PSpot) (w : World) (hrow : w.ownsRow base 136 3 v ss.length (ss.map PSpot.cells).flatten) (hn : ss.Nodup) (hb : base ≤ w.heap.size) (hlen : ss.length ≤ 65536) :
    Calls Tryz.prog 166 #[v, .func (.func 130) #[] #[]] w fun e w' => e = .returned (.tuple #[]) ∧ ∃ L, SpSet L ss ∧ SpotsR (fun b => base ≤ b) w' v L ∧ Below base w w' := by
  rcases hrow.2 with ⟨rfl, hz⟩ | ⟨g, cap, cur, rfl, hbase, hgb, r1, r2, r3, r4⟩
  · have hss : ss = [] := List.eq_nil_of_length_eq_zero hz
    subst hss
    refine (sortNone none 0 _ w).mono ?_
    rintro e w' ⟨rfl, rfl⟩
    exact ⟨rfl, [], SpSet.nil, ⟨none, 0, [], rfl, Nat.le_refl _, by simp [maxLen], rfl, by simp, by simp⟩, Below.refl _ _⟩
  · have hH : HoldsK PSpot.cells 3 w g 0 ss.toArray := holdsSp hgb r4
    have hgl : g < w.heap.size := blk_lt hgb
    have hcmp : CmpLays Tryz.prog 130 #[] PSpot.cells 3 cmpSp g 0 ss.toArray.size w := fun m os dk _ x y => (sortedCmp x y _).mono fun e w' h => h
    have h := AnyQ.slices_SortFunc sortFS 3 Tryz.isAgg136 Tryz.sizeOf136 PSpot.cells (fun _ => rfl) spotCells1 cmpSp swoSp 130 #[] g 0 cap ss.toArray w (enters_of Tryz.func130 (by kernel_rfl) rfl) hcmp hH hgl (by simp; omega)
    have e0 : ss.toArray.size = ss.length := by simp
    rw [e0] at h
    refine h.mono ?_
    rintro e w' ⟨rfl, d', n, os, hp, hs, rfl⟩
    rw [← e0] at hp hs
    have hsz : d'.size = ss.toArray.size := hp.1
    obtain ⟨k1, k2⟩ := sortedPw hp hs (by simpa using hn)
    refine ⟨rfl, d'.toList, ⟨k1, fun x => (k2 x).trans (by simp)⟩, ?_, ?_⟩
    · exact holdsSpotsR (holdsK_sortWorldK_c PSpot.cells 3 w g 0 ss.toArray d' n os hH hgl hsz) (Nat.lt_of_lt_of_le hgl (size_sortWorldK_c PSpot.cells 3 w g 0 n d' os)) hbase (by simp [hsz]) r1 r2
    · exact (Below.refl base w).grown (grownBy_sortedSp d') hb (fun k e => by cases e; exact hbase)
end Go.Hg
