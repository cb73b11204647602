/- Spots in order: the plain words; hedgerowref15.Broken: Most; (*hedgerowref23.Job).Step, Verdict; (*build.Job).Verdict; The graph of wakes, of layer 18; hedgerowlaw17.wakes: true; hedgerowref17: Node, Edge: where an Id stands; hedgerowref17: At, props; hedgerowref17: what changes of its lists leave; cut; hedgerowref17.May: the same error. Conditions: those that each theorem names. -/
import Derived.WalkKit
import Derived.WalkSpells
import Derived.WalkLawsBesides
import Derived.Lib.Hide
import Derived.BigQuiet
import Derived.Deep.LoopGhost
import Derived.Test.YtfachjfohhhgeaaGreatDoorRows
import Derived.Lib.SliceRun
import Derived.WideMake
import Derived.Deep.RegionLaw
import Derived.Lib.Overlaps
import Derived.Deep.RegionHeld3
import Derived.Laws.ResultCell
import Derived.Shelf.SortM.Plain
import Derived.Shelf.SortM.SortNone
import Derived.Shelf.SlicesE.DeleteFunc
import Derived.Maps.OwnOps
import Derived.Maps.OwnSet
import Derived.Carry
import Derived.Lib.SlKeysI
import Derived.Shelf.SlIterI.Nil
import Derived.Conc.LoneCalls
import Derived.Conc.SmallLaws
import Derived.Deep.CutBlock
import Derived.Deep.DeepCutAuto
import Derived.Laws.EntriesVeiled
import Derived.Maps.RangeWalk
import Derived.Lib.SlMapFilter
import Derived.Test.YtfachjfohhhgeaaGreatDoorBdI
namespace Go.Hg

def ltSp (a b : PSpot) : Bool := decide (a.kind < b.kind) || (decide (a.kind = b.kind) && (ltS a.typ b.typ || (decide (a.typ = b.typ) && ltS a.name b.name)))
theorem ltS_irrefl (a : ByteArray) : ltS a a = false := by
  have h := ltS_tri a a
  simp at h
  exact h
theorem ltS_total {a b : ByteArray} (h1 : ltS a b = false) (h2 : ltS b a = false) : a = b := by
  have h := ltS_tri a b
  rw [h1, h2] at h
  simpa using h
theorem ltSp_irrefl (a : PSpot) : ltSp a a = false := by simp [ltSp, ltS_irrefl]
theorem ltSp_iff (a b : PSpot) : ltSp a b = true ↔ a.kind < b.kind ∨ (a.kind = b.kind ∧ (ltS a.typ b.typ = true ∨ (a.typ = b.typ ∧ ltS a.name b.name = true))) := by simp [ltSp]
theorem ltSp_trans {a b c : PSpot} (h1 : ltSp a b = true) (h2 : ltSp b c = true) : ltSp a c = true := by
  rw [ltSp_iff] at h1 h2 ⊢
  rcases h1 with h1 | ⟨e1, h1⟩ <;> rcases h2 with h2 | ⟨e2, h2⟩
  · exact .inl (by omega)
  · exact .inl (by omega)
  · exact .inl (by omega)
  · refine .inr ⟨by omega, ?_⟩
    rcases h1 with h1 | ⟨f1, h1⟩ <;> rcases h2 with h2 | ⟨f2, h2⟩
    · exact .inl (ltS_trans h1 h2)
    · exact .inl (f2 ▸ h1)
    · exact .inl (f1 ▸ h2)
    · exact .inr ⟨f1.trans f2, ltS_trans h1 h2⟩
theorem ltSp_total {a b : PSpot} (h1 : ltSp a b = false) (h2 : ltSp b a = false) : a = b := by
  have g1 : ¬ ltSp a b = true := by rw [h1]; simp
  have g2 : ¬ ltSp b a = true := by rw [h2]; simp
  rw [ltSp_iff] at g1 g2
  have hk : a.kind = b.kind := by
    have : ¬ a.kind < b.kind := fun h => g1 (.inl h)
    have : ¬ b.kind < a.kind := fun h => g2 (.inl h)
    omega
  have k1 : ¬ (ltS a.typ b.typ = true ∨ (a.typ = b.typ ∧ ltS a.name b.name = true)) := fun h => g1 (.inr ⟨hk, h⟩)
  have k2 : ¬ (ltS b.typ a.typ = true ∨ (b.typ = a.typ ∧ ltS b.name a.name = true)) := fun h => g2 (.inr ⟨hk.symm, h⟩)
  have ht : a.typ = b.typ := ltS_total (by simpa using fun h => k1 (.inl h)) (by simpa using fun h => k2 (.inl h))
  have hn : a.name = b.name := ltS_total (by simpa using fun h => k1 (.inr ⟨ht, h⟩)) (by simpa using fun h => k2 (.inr ⟨ht.symm, h⟩))
  cases a; cases b
  simp only at hk ht hn
  rw [hk, ht, hn]
theorem ltSp_asymm {a b : PSpot} (h : ltSp a b = true) : ltSp b a = false := by
  cases h2 : ltSp b a with
  | false => rfl
  | true => have := ltSp_trans h h2; rw [ltSp_irrefl] at this; cases this

def SpSet (l : List PSpot) (S : List PSpot) : Prop := l.Pairwise (fun a b => ltSp a b = true) ∧ ∀ x, x ∈ l ↔ x ∈ S
theorem spSame : ∀ {l l' : List PSpot}, l.Pairwise (fun a b => ltSp a b = true) → l'.Pairwise (fun a b => ltSp a b = true) → (∀ x, x ∈ l ↔ x ∈ l') → l = l'
  | [], [], _, _, _ => rfl
  | [], b :: t', _, _, h => absurd ((h b).2 (.head _)) (by simp)
  | a :: t, [], _, _, h => absurd ((h a).1 (.head _)) (by simp)
  | a :: t, b :: t', h1, h2, h => by
    rw [List.pairwise_cons] at h1 h2
    have hab : a = b := by
      have ha := (h a).1 (.head _)
      have hb := (h b).2 (.head _)
      rcases List.mem_cons.1 ha with e | ha
      · exact e
      · rcases List.mem_cons.1 hb with e | hb
        · exact e.symm
        · have g1 := h1.1 _ hb
          have g2 := h2.1 _ ha
          rw [ltSp_asymm g1] at g2
          cases g2
    subst hab
    refine congrArg (a :: ·) (spSame h1.2 h2.2 fun x => ?_)
    constructor
    · intro hx
      rcases List.mem_cons.1 ((h x).1 (.tail _ hx)) with rfl | hx'
      · have := h1.1 _ hx; rw [ltSp_irrefl] at this; cases this
      · exact hx'
    · intro hx
      rcases List.mem_cons.1 ((h x).2 (.tail _ hx)) with rfl | hx'
      · have := h2.1 _ hx; rw [ltSp_irrefl] at this; cases this
      · exact hx'
theorem SpSet.uniq {l l' S : List PSpot} (h : SpSet l S) (h' : SpSet l' S) : l = l' := spSame h.1 h'.1 fun x => by rw [h.2, h'.2]
theorem SpSet.nil : SpSet [] [] := ⟨.nil, fun _ => Iff.rfl⟩
theorem takeWhile_mem {α : Type} {p : α → Bool} : ∀ {l : List α} {x : α}, x ∈ l.takeWhile p → p x = true
  | [], _, h => by cases h
  | a :: t, x, h => by
    rw [List.takeWhile_cons] at h
    split at h
    · rename_i ha
      rcases List.mem_cons.1 h with rfl | h
      · exact ha
      · exact takeWhile_mem h
    · cases h
def putSp (l : List PSpot) (s : PSpot) : List PSpot := if s ∈ l then l else (l.takeWhile fun x => ltSp x s) ++ s :: (l.dropWhile fun x => ltSp x s)
theorem SpSet.put {l S : List PSpot} (h : SpSet l S) (s : PSpot) : SpSet (putSp l s) (S ++ [s]) := by
  unfold putSp
  by_cases hs : s ∈ l
  · rw [if_pos hs]
    exact ⟨h.1, fun x => by
      rw [h.2, List.mem_append, List.mem_singleton]
      constructor
      · exact .inl
      · rintro (h1 | rfl)
        · exact h1
        · exact (h.2 x).1 hs⟩
  · rw [if_neg hs]
    have hT : ∀ x ∈ l.takeWhile (fun x => ltSp x s), ltSp x s = true := fun x hx => takeWhile_mem (p := fun x => ltSp x s) hx
    have hmem : ∀ x, x ∈ l ↔ x ∈ l.takeWhile (fun x => ltSp x s) ∨ x ∈ l.dropWhile (fun x => ltSp x s) := fun x => by
      conv => lhs; rw [← List.takeWhile_append_dropWhile (p := fun x => ltSp x s) (l := l)]
      exact List.mem_append
    have hD : ∀ x ∈ l.dropWhile (fun x => ltSp x s), ltSp s x = true := by
      intro x hx
      have hp : (l.dropWhile fun x => ltSp x s).Pairwise (fun a b => ltSp a b = true) := h.1.sublist (List.dropWhile_sublist _)
      cases hd : l.dropWhile (fun x => ltSp x s) with
      | nil => rw [hd] at hx; cases hx
      | cons a t =>
        have ha : ltSp a s = false := by
          have := List.head?_dropWhile_not (fun x => ltSp x s) l
          rw [hd] at this
          simpa using this
        have hne : s ≠ a := by
          rintro rfl
          exact hs ((hmem s).2 (.inr (by rw [hd]; exact .head _)))
        have hsa : ltSp s a = true := by
          cases hc : ltSp s a with
          | true => rfl
          | false => exact absurd (ltSp_total hc ha) hne
        rw [hd] at hx hp
        rw [List.pairwise_cons] at hp
        rcases List.mem_cons.1 hx with rfl | hx
        · exact hsa
        · exact ltSp_trans hsa (hp.1 x hx)
    refine ⟨?_, fun x => ?_⟩
    · rw [List.pairwise_append, List.pairwise_cons]
      refine ⟨h.1.sublist (List.takeWhile_sublist _), ⟨hD, h.1.sublist (List.dropWhile_sublist _)⟩, ?_⟩
      intro a ha b hb
      rcases List.mem_cons.1 hb with rfl | hb
      · exact hT a ha
      · exact ltSp_trans (hT a ha) (hD b hb)
    · rw [List.mem_append, List.mem_cons, List.mem_append, List.mem_singleton, ← h.2 x, hmem x]
      constructor
      · rintro (h1 | h1 | h1)
        · exact .inl (.inl h1)
        · exact .inr h1
        · exact .inl (.inr h1)
      · rintro ((h1 | h1) | h1)
        · exact .inl h1
        · exact .inr (.inr h1)
        · exact .inr (.inl h1)
end Go.Hg

namespace Go.Hg
open Go.RowKit Go.Proofs

def mtE (r : PRule) (y : Int) (e : PEdge) : Bool := decide (e.typ = r.typ) && decide (e.from_ = y)
theorem outR_take {E : List PEdge} {r : PRule} {y : Int} {k : Nat} {e : PEdge} (hT : E.take (k + 1) = E.take k ++ [e]) : outR (E.take (k + 1)) r y = outR (E.take k) r y + if mtE r y e = true then 1 else 0 := by
  unfold outR
  rw [hT, List.filter_append, List.length_append]
  unfold mtE
  by_cases h : (decide (e.typ = r.typ) && decide (e.from_ = y)) = true
  · rw [if_pos h]; simp only [List.filter_cons, if_pos h, List.filter_nil, List.length_singleton]
  · rw [if_neg h]; simp only [List.filter_cons, if_neg h, List.filter_nil, List.length_nil]
def firstE (E : List PEdge) (r : PRule) (y : Int) (j k : Nat) : Bool := decide (outR (E.take (min k j)) r y = 0)
def MostI (E : List PEdge) (r : PRule) (i : Nat) (l : List Int) : Prop := l.Nodup ∧ ∀ y, y ∈ l ↔ r.n < (outR E r y : Int) ∧ 0 < outR (E.take i) r y
theorem MostI.step {E : List PEdge} {r : PRule} {i : Nat} {l : List Int} {e : PEdge} (h : MostI E r i l) (hT : E.take (i + 1) = E.take i ++ [e]) (hi : i ≤ E.length) {b : Bool}
    (hb : (decide (e.typ = r.typ) && (decide (r.n < (outR E r e.from_ : Int)) && firstE E r e.from_ i E.length)) = b) : MostI E r (i + 1) (if b = true then l ++ [e.from_] else l) := by
  unfold firstE at hb
  rw [Nat.min_eq_right hi] at hb
  cases b with
  | true =>
    simp only [Bool.and_eq_true, decide_eq_true_eq] at hb
    obtain ⟨h1, h2, h3⟩ := hb
    rw [if_pos rfl]
    refine ⟨?_, fun y => ?_⟩
    · rw [List.nodup_append]
      refine ⟨h.1, by simp, ?_⟩
      intro a ha c hc hac
      rw [List.mem_singleton] at hc
      subst hc; subst hac
      have := ((h.2 _).1 ha).2
      omega
    · rw [List.mem_append, List.mem_singleton, h.2, outR_take hT]
      constructor
      · rintro (⟨g1, g2⟩ | rfl)
        · exact ⟨g1, by omega⟩
        · exact ⟨h2, by simp [mtE, h1]⟩
      · rintro ⟨g1, g2⟩
        by_cases hm : mtE r y e = true
        · unfold mtE at hm
          simp only [Bool.and_eq_true, decide_eq_true_eq] at hm
          exact .inr hm.2.symm
        · rw [if_neg hm] at g2
          exact .inl ⟨g1, by omega⟩
  | false =>
    rw [if_neg (by simp)]
    refine ⟨h.1, fun y => ?_⟩
    rw [h.2, outR_take hT]
    constructor
    · rintro ⟨g1, g2⟩
      exact ⟨g1, by omega⟩
    · rintro ⟨g1, g2⟩
      refine ⟨g1, ?_⟩
      by_cases hm : mtE r y e = true
      · unfold mtE at hm
        simp only [Bool.and_eq_true, decide_eq_true_eq] at hm
        obtain ⟨m1, rfl⟩ := hm
        simp only [m1, decide_true, Bool.true_and, Bool.and_eq_false_iff, decide_eq_false_iff_not] at hb
        rcases hb with hb | hb
        · exact absurd g1 hb
        · omega
      · rw [if_neg hm] at g2
        omega
end Go.Hg

namespace Go.Hg
open Go.RowKit Go.Proofs

def verdV (G : PGraph) (J : PJob) : Value := if endedJ J G.next = true then .tuple #[.bool (keepR G.nodes G.edges J.r), .int .i64 0] else .tuple #[.bool false, .int .i64 161]

set_option maxRecDepth 100000 in
set_option maxHeartbeats 4000000 in
theorem jobVerdict (S SG : Nat → Prop) (B BG : Nat) (J : PJob) (G : PGraph) (w : World) (h : JobOk S w B J) (hi : JobInv J) (hg : GraphOk 106 SG w BG G) (hG : GInv G) (h64 : ∀ e ∈ G.edges, (Lit.int .i64 e.from_).wf = true) :
    Calls Tryz.prog 16 #[.pointer (some ⟨B, 0, none⟩), .pointer (some ⟨BG, 0, none⟩)] w fun e w' => e = .returned (verdV G J) ∧ Grow w w' := by
  have HJ := Lib.hid h; have HI := Lib.hid hi; have HG := Lib.hid hg; have H64 := Lib.hid h64
  have HGA := Lib.hid (gAt_of hg.rd hG)
  obtain ⟨cb, mb, s, r, tm, -, -, -, -, -, -, hB, -, -⟩ := h
  have HB := Lib.hid hB
  clear hi hg hG hB h64
  obtain ⟨be, hbe⟩ : ∃ b, endedJ J G.next = b := ⟨_, rfl⟩
  have HBE := Lib.hid hbe
  clear hbe
  go_enter Tryz.func16, Tryz.ntmps16
  go_wp2_with fail
  refine (jobEnded S SG B BG J G w HJ.out HI.out HG.out).mono ?_
  rintro e w1 ⟨rfl, g1⟩
  rw [HBE.out]
  have HG1 := Lib.hid g1
  clear g1
  cases be
  · go_wp2
    go_ret2
    exact ⟨by unfold verdV; rw [HBE.out]; rfl, HG1.out⟩
  · have HS := Lib.hid (show ∀ w', Grow w1 w' → RuleB w' B J.r from fun w' g => ruleB_of (rest := [.int .i64 J.chunk, .int .i64 J.pos, .chan (some cb), .map (some mb)]) (((HG1.out.step g).heapEq (blk_lt HB.out)).trans HB.out))
    have HD := Lib.hid (show Grow w1 w1.drew from (Grow.rfl' w1).drewd)
    have HAS := Lib.hid (fun (w' : World) (g : Grow w1 w') => HGA.out w' (HG1.out.step g))
    have HKP := Lib.hid (show ∀ w' nv ev, NodesR (fun _ => True) w' nv G.nodes ∧ EdgesR (fun _ => True) w' ev G.edges → Calls Tryz.prog 45 #[nv, ev, J.r.args] w' fun e w2 => e = .returned (.bool (keepR G.nodes G.edges J.r)) ∧ Grow w' w2 from fun w' nv ev h => ruleKeeps G.nodes G.edges nv ev J.r w' _ h.1 h.2 H64.out)
    have HVD := Lib.hid (show verdV G J = .tuple #[.bool (keepR G.nodes G.edges J.r), .int .i64 0] by unfold verdV; rw [HBE.out]; rfl)
    clear HJ HI HG HGA H64
    generalize keepR G.nodes G.edges J.r = kr at *
    go_wp2_with fail
    go_region_held3 (fun w' => RuleB w' B J.r) (first | exact HS.out _ HD.out | exact HS.out _ HG9.out | exact HS.out _ HGC.out | exact HS.out _ HGa.out) (first | (go_at_call 47; refine (HAS.out _ HGa.out).2.mono ?_; rintro e wc ⟨vc, rfl, he, gc⟩; have HP := Lib.hid (And.intro (HNa.out.grow gc) (edgesT he)); have HGC := Lib.hid (HGa.out.step gc); obtain ⟨_, _, rfl, _⟩ := SlR.open he; clear he gc) | (go_at_call 46; refine (HAS.out _ HD.out).1.mono ?_; rintro e wa ⟨va, rfl, hn, ga⟩; have HNa := Lib.hid (nodesT hn); have HGa := Lib.hid (HD.out.step ga); obtain ⟨_, _, rfl, _⟩ := SlR.open hn; clear hn ga) | (go_at_call 45; refine (HKP.out _ _ _ HP.out).mono ?_; rintro e w9 ⟨rfl, g9⟩; have HG9 := Lib.hid (HGC.out.step g9); clear g9))
    all_goals go_wp2
    all_goals go_ret2
    all_goals exact ⟨by rw [HVD.out]; rfl, HG1.out.step HG9.out⟩

end Go.Hg

namespace Go.Hg
def madeK (k : Nat) (l : List POp) : PGraph := (l.take k).foldl (fun G o => stepG typesC o G) PGraph.empty
def madeG (l : List POp) : PGraph := madeK 60 l
theorem madeK_succ {l : List POp} {k : Nat} (hk : k < l.length) : madeK (k + 1) l = stepG typesC l[k] (madeK k l) := by
  unfold madeK
  rw [List.take_succ_eq_append_getElem hk, List.foldl_append]
  rfl
theorem madeK_full {l : List POp} {k : Nat} (h : l.length ≤ k ∨ 60 ≤ k) (hk : k ≤ 60) : madeK k l = madeG l := by
  unfold madeG madeK
  rcases h with h | h
  · rw [List.take_of_length_le h, List.take_of_length_le (by omega)]
  · have : k = 60 := by omega
    rw [this]
theorem madeK_inv (l : List POp) (k : Nat) : GInv (madeK k l) := by
  unfold madeK
  generalize l.take k = m
  have key : ∀ (m : List POp) (G : PGraph), GInv G → GInv (m.foldl (fun G o => stepG typesC o G) G) := by
    intro m
    induction m with
    | nil => exact fun G h => h
    | cons a t ih => exact fun G h => ih _ h.stepG
  exact key m _ GInv.empty
def wa : POp := ⟨1, 0, sMan, 0, 0, ByteArray.empty, ⟨0, 0, ByteArray.empty⟩, false⟩
end Go.Hg

namespace Go.Hg
open Go.RowKit Go.Proofs

def sName : ByteArray := ⟨#[110, 97, 109, 101]⟩
end Go.Hg

namespace Go.Hg
open Go.RowKit Go.Proofs

def IdxAt {α : Type} (f : α → Int) (l : List α) (id r : Int) : Prop := (r = -1 ∧ (l.any fun y => decide (f y = id)) = false) ∨ ∃ (k : Nat) (x : α), r = k ∧ l[k]? = some x ∧ f x = id ∧ (l.any fun y => decide (f y = id)) = true
theorem IdxAt.pos {α : Type} {f : α → Int} {l : List α} {id r : Int} (h : IdxAt f l id r) : decide (0 ≤ r) = (l.any fun y => decide (f y = id)) := by
  rcases h with ⟨rfl, h⟩ | ⟨k, x, rfl, _, _, h⟩
  · rw [h]; rfl
  · rw [h]; simp
def idxZ {α : Type} (f : α → Int) (l : List α) (id : Int) : Int := match l.findIdx? fun y => decide (f y = id) with | some k => (k : Int) | none => -1
theorem idxZ_at {α : Type} (f : α → Int) (l : List α) (id : Int) : IdxAt f l id (idxZ f l id) := by
  unfold idxZ
  cases h : l.findIdx? fun y => decide (f y = id) with
  | none =>
    rw [List.findIdx?_eq_none_iff] at h
    exact .inl ⟨rfl, List.any_eq_false.2 (fun y hy => by have := h y hy; simpa using this)⟩
  | some k =>
    obtain ⟨hl, he, -⟩ := List.findIdx?_eq_some_iff_getElem.1 h
    exact .inr ⟨k, l[k], rfl, List.getElem?_eq_getElem hl, by simpa using he, List.any_eq_true.2 ⟨l[k], List.getElem_mem hl, he⟩⟩
theorem idxZ_hit {α : Type} {f : α → Int} {l : List α} {id : Int} {k : Nat} {x : α} (hx : l[k]? = some x) (hid : f x = id) (hall : ∀ y ∈ l.take k, f y ≠ id) : idxZ f l id = k := by
  obtain ⟨hl, rfl⟩ := List.getElem?_eq_some_iff.1 hx
  have h : (l.findIdx? fun y => decide (f y = id)) = some k := List.findIdx?_eq_some_iff_getElem.2 ⟨hl, by simpa using hid, fun j hj => by
    have := hall l[j] (List.mem_take_iff_getElem.2 ⟨j, by omega, rfl⟩)
    simpa using this⟩
  unfold idxZ
  rw [h]
theorem idxZ_miss {α : Type} {f : α → Int} {l : List α} {id : Int} (hall : ∀ y ∈ l, f y ≠ id) : idxZ f l id = -1 := by
  have h : (l.findIdx? fun y => decide (f y = id)) = none := List.findIdx?_eq_none_iff.2 fun y hy => by have := hall y hy; simpa using this
  unfold idxZ
  rw [h]

set_option maxRecDepth 100000 in
set_option maxHeartbeats 1000000 in
theorem refNode (S : Nat → Prop) (B : Nat) (G : PGraph) (id : Int) (w : World) (h : GraphRd 42 S w B G) :
    Calls Tryz.prog 57 #[.pointer (some ⟨B, 0, none⟩), .int .i64 id] w fun e w' => e = .returned (.int .i64 (idxZ (fun x : PNode => x.id) G.nodes id)) ∧ w' = w := by
  obtain ⟨na, nc, ea, ec, hB, g0, g1, g2, hn, -⟩ := h.read
  obtain ⟨_, _, hv, hal, hac, hA⟩ := SlR.open hn
  simp only [Value.slice.injEq, true_and] at hv
  obtain ⟨rfl, rfl⟩ := hv
  unfold maxLen at hac
  have HA := Lib.hid hA
  clear h hn hA
  generalize hll : G.nodes = l at *
  have HLL := Lib.hid hll
  clear hll
  go_enter Tryz.func57, Tryz.ntmps57
  go_wp2
  go_loopg [5] l.length (fun g i wr => ∃ k : Nat, k ≤ l.length ∧ g = l.length - k ∧ i = .int .i64 k ∧ (∀ y ∈ l.take k, y.id ≠ id) ∧ wr = w)
  case atStart => exact ⟨0, by omega, by omega, rfl, by simp, rfl⟩
  case round =>
    obtain ⟨k, hk, rfl, rfl, hall, rfl⟩ := hrel
    have HALL := Lib.hid hall; clear hall
    by_cases hkl : k < l.length
    · obtain ⟨ba, oa, ra, rfl, hSa, hba, hRa, hca⟩ := HA.out k l[k] (List.getElem?_eq_getElem hkl)
      obtain ⟨pva, hba', a0, a1, a2, hpa⟩ := hRa.at hba (Grow.rfl' _) hca
      clear hca hRa hSa hba hpa
      have HE := Lib.hid (show l[k]? = some l[k] from List.getElem?_eq_getElem hkl)
      have HT := Lib.hid (show l.take (k + 1) = l.take k ++ [l[k]] from List.take_succ_eq_append_getElem hkl)
      generalize l[k] = x at *
      by_cases hx : x.id = id
      · have hx' : (x.id == id) = true := by simpa using hx
        have HX := Lib.hid hx
        clear hx
        go_wp2
        go_ret
        exact ⟨by rw [idxZ_hit HE.out HX.out HALL.out]; rfl, rfl⟩
      · have hx' : (x.id == id) = false := by simpa using hx
        have HX := Lib.hid hx
        clear hx
        go_wp2_with fail
        go_roundg (l.length - (k + 1))
        case measure => omega
        case rel => exact ⟨k + 1, by omega, rfl, by go_num, by rw [HT.out]; intro y hy; rcases List.mem_append.1 hy with h | h; exact HALL.out y h; simp at h; subst h; exact HX.out, rfl⟩
    · have h1 : l.take k = l := List.take_of_length_le (by omega)
      have h2 := HALL.out
      rw [h1] at h2
      have H2 := Lib.hid h2
      clear h1 h2
      go_wp2
      go_ret
      exact ⟨by rw [idxZ_miss H2.out]; rfl, rfl⟩

set_option maxRecDepth 100000 in
set_option maxHeartbeats 1000000 in
theorem refEdge (S : Nat → Prop) (B : Nat) (G : PGraph) (id : Int) (w : World) (h : GraphRd 42 S w B G) :
    Calls Tryz.prog 59 #[.pointer (some ⟨B, 0, none⟩), .int .i64 id] w fun e w' => e = .returned (.int .i64 (idxZ (fun x : PEdge => x.id) G.edges id)) ∧ w' = w := by
  obtain ⟨na, nc, ea, ec, hB, g0, g1, g2, -, hn⟩ := h.read
  obtain ⟨_, _, hv, hal, hac, hA⟩ := SlR.open hn
  simp only [Value.slice.injEq, true_and] at hv
  obtain ⟨rfl, rfl⟩ := hv
  unfold maxLen at hac
  have HA := Lib.hid hA
  clear h hn hA
  generalize hll : G.edges = l at *
  have HLL := Lib.hid hll
  clear hll
  go_enter Tryz.func59, Tryz.ntmps59
  go_wp2
  go_loopg [5] l.length (fun g i wr => ∃ k : Nat, k ≤ l.length ∧ g = l.length - k ∧ i = .int .i64 k ∧ (∀ y ∈ l.take k, y.id ≠ id) ∧ wr = w)
  case atStart => exact ⟨0, by omega, by omega, rfl, by simp, rfl⟩
  case round =>
    obtain ⟨k, hk, rfl, rfl, hall, rfl⟩ := hrel
    have HALL := Lib.hid hall; clear hall
    by_cases hkl : k < l.length
    · obtain ⟨ba, oa, ra, rfl, hSa, hba, hRa, hca⟩ := HA.out k l[k] (List.getElem?_eq_getElem hkl)
      obtain ⟨pva, hba', a0, a1, a2, a3, a4, hpa⟩ := hRa.at hba (Grow.rfl' _) hca
      clear hca hRa hSa hba hpa
      have HE := Lib.hid (show l[k]? = some l[k] from List.getElem?_eq_getElem hkl)
      have HT := Lib.hid (show l.take (k + 1) = l.take k ++ [l[k]] from List.take_succ_eq_append_getElem hkl)
      generalize l[k] = x at *
      by_cases hx : x.id = id
      · have hx' : (x.id == id) = true := by simpa using hx
        have HX := Lib.hid hx
        clear hx
        go_wp2
        go_ret
        exact ⟨by rw [idxZ_hit HE.out HX.out HALL.out]; rfl, rfl⟩
      · have hx' : (x.id == id) = false := by simpa using hx
        have HX := Lib.hid hx
        clear hx
        go_wp2_with fail
        go_roundg (l.length - (k + 1))
        case measure => omega
        case rel => exact ⟨k + 1, by omega, rfl, by go_num, by rw [HT.out]; intro y hy; rcases List.mem_append.1 hy with h | h; exact HALL.out y h; simp at h; subst h; exact HX.out, rfl⟩
    · have h1 : l.take k = l := List.take_of_length_le (by omega)
      have h2 := HALL.out
      rw [h1] at h2
      have H2 := Lib.hid h2
      clear h1 h2
      go_wp2
      go_ret
      exact ⟨by rw [idxZ_miss H2.out]; rfl, rfl⟩
end Go.Hg

namespace Go.Hg
open Go.RowKit Go.Proofs

def atG (G : PGraph) (id : Int) : List Int := (G.edges.filter fun x => atE x id).map (·.id)
set_option maxRecDepth 100000 in
set_option maxHeartbeats 2000000 in
theorem refAt (S : Nat → Prop) (B : Nat) (G : PGraph) (id : Int) (w : World) (h : GraphRd 42 S w B G) (hb : G.edges.length ≤ 1099511627776) :
    Calls Tryz.prog 55 #[.pointer (some ⟨B, 0, none⟩), .int .i64 id] w (IdsPost (atG G id) w) := by
  obtain ⟨na, nc, ea, ec, hB, c0, c1, c2, -, hn⟩ := h.read
  obtain ⟨iP, hiP, hzP0, hzP1, hzP2⟩ := info_parts infoInt
  obtain ⟨_, _, hv, hal, hac, hA⟩ := SlR.open hn
  simp only [Value.slice.injEq, true_and] at hv
  obtain ⟨rfl, rfl⟩ := hv
  unfold maxLen at hac
  have HS := Lib.hid (show ∀ w', Grow w w' → B < w'.heap.size ∧ w'.cell? ⟨B, 1, none⟩ = some (.slice ea G.edges.length ec) from fun w' hg => ⟨Nat.lt_of_lt_of_le hB hg.size, (hg.cell (p := ⟨B, 1, none⟩) hB).trans c1⟩)
  have HA := Lib.hid hA; have HB := Lib.hid hb
  clear h hn hA hb c0 c2
  unfold atG
  generalize G.edges = l at *
  go_enter Tryz.func55, Tryz.ntmps55
  go_wp2
  go_loopg [5, 6] l.length (fun g vo i wr => ∃ (k : Nat) (ob : Option Nat), k ≤ l.length ∧ g = l.length - k ∧ i = .int .i64 k ∧ IdsO wr vo (((l.take k).filter fun x => atE x id).map (·.id)) ob ∧ (∀ b, ob = some b → w.heap.size ≤ b) ∧ Grow w wr)
  case atStart => exact ⟨0, none, by omega, by omega, rfl, OwnS.nil _ _ _, by simp, Grow.rfl' w⟩
  case round =>
    obtain ⟨k, ob, hk, rfl, rfl, hown, hob, hgr⟩ := hrel
    have HOWN := Lib.hid hown; have HOB := Lib.hid hob; have HGR := Lib.hid hgr
    obtain ⟨oo, co, rfl, -, -⟩ := hown.isSlice
    obtain ⟨hBr, c1r⟩ := HS.out _ HGR.out
    clear c1
    by_cases hkl : k < l.length
    · obtain ⟨ba, oa, ra, rfl, hSa, hba, hRa, hca⟩ := HA.out k l[k] (List.getElem?_eq_getElem hkl)
      obtain ⟨pva, hba', a0, a1, a2, a3, a4, hpa⟩ := hRa.at hba hgr hca
      clear hca hRa hSa hba hgr hown hob hpa
      have HT := Lib.hid (show l.take (k + 1) = l.take k ++ [l[k]] from List.take_succ_eq_append_getElem hkl)
      have HFL := Lib.hid (show ((l.take k).filter fun x => atE x id).length ≤ l.length from Nat.le_trans (List.length_filter_le _ _) (List.length_take_le' k l))
      generalize l[k] = p at *
      generalize hfl : ((l.take k).filter fun x => atE x id).map (·.id) = fl at *
      have hfll : ((l.take k).filter fun x => atE x id).length = fl.length := by rw [← hfl, List.length_map]
      rw [hfll] at HFL
      have HFF := Lib.hid hfl
      clear hfl hfll
      by_cases hp1 : p.from_ = id
      · have hq1 : (p.from_ == id) = true := by simpa using hp1
        have HATE := Lib.hid (show atE p id = true by unfold atE; simp [hp1])
        clear hp1
        have HW := Lib.hid (show ∀ o1, Grow wr (wr.alloc o1) from fun o1 => (Grow.rfl' wr).allocd o1)
        have hf1 : Hid (((l.take (k + 1)).filter fun x => atE x id).map (·.id) = fl ++ [p.id]) := Lib.hid (by rw [HT.out, List.filter_append, ← HFF.out]; simp [HATE.out])
        have HRD := Lib.hid (Rd.lit wr #[.int .i64 p.id] 2 1 1 rfl)
        go_wp2_with (at_builtin; go_must (refine wpList_append_S _ rfl (.tmp 38) (.tmp 47) 25 rfl 2 iP _ 1 8 Tryz.underlying25 hiP hzP0 hzP1 hzP2 rfl (by decide) (.slice oo fl.length co) fl.length _ ob rfl (HOWN.out.grow (HW.out _)) (.slice (some ⟨wr.heap.size, 0, none⟩) 1 1) rfl 1 _ HRD.out (one1 _ rfl) (by have := HB.out; have := HFL.out; unfold maxLen; omega) (by have := HB.out; have := HFL.out; omega) ?_))
        intro v' w5 ob' h1 h2 h3
        have hown5 : IdsO w5 v' (((l.take (k + 1)).filter fun x => atE x id).map (·.id)) ob' := by
          rw [hf1.out]
          unfold IdsO
          rw [List.length_append, List.map_append]
          exact h1
        have hsz := HGR.out.size
        have hob5 : ∀ b, ob' = some b → w.heap.size ≤ b := by
          intro b hb
          rcases h3 with h3 | ⟨g, h3, hge⟩
          · exact HOB.out b (by rw [← h3]; exact hb)
          · rw [h3] at hb; cases hb; first | omega | (simp at hge; omega)
        have hg5 : Grow w w5 := (HGR.out.step (HW.out _)).modd h2 (fun b hb => HOB.out b hb)
        have H5 := Lib.hid hown5; have HO5 := Lib.hid hob5; have HG5 := Lib.hid hg5
        clear h1 h2 h3 hown5 hob5 hg5 hsz
        go_wp2_with fail
        go_roundg (l.length - (k + 1))
        case measure => omega
        case rel => exact ⟨k + 1, ob', by omega, rfl, by go_num, H5.out, HO5.out, HG5.out⟩
      · have hq1 : (p.from_ == id) = false := by simpa using hp1
        by_cases hp2 : p.to_ = id
        · have hq2 : (p.to_ == id) = true := by simpa using hp2
          have HATE := Lib.hid (show atE p id = true by unfold atE; simp [hp2])
          clear hp1 hp2
          have HW := Lib.hid (show ∀ o1, Grow wr (wr.alloc o1) from fun o1 => (Grow.rfl' wr).allocd o1)
          have hf1 : Hid (((l.take (k + 1)).filter fun x => atE x id).map (·.id) = fl ++ [p.id]) := Lib.hid (by rw [HT.out, List.filter_append, ← HFF.out]; simp [HATE.out])
          have HRD := Lib.hid (Rd.lit wr #[.int .i64 p.id] 2 1 1 rfl)
          go_wp2_with (at_builtin; go_must (refine wpList_append_S _ rfl (.tmp 38) (.tmp 47) 25 rfl 2 iP _ 1 8 Tryz.underlying25 hiP hzP0 hzP1 hzP2 rfl (by decide) (.slice oo fl.length co) fl.length _ ob rfl (HOWN.out.grow (HW.out _)) (.slice (some ⟨wr.heap.size, 0, none⟩) 1 1) rfl 1 _ HRD.out (one1 _ rfl) (by have := HB.out; have := HFL.out; unfold maxLen; omega) (by have := HB.out; have := HFL.out; omega) ?_))
          intro v' w5 ob' h1 h2 h3
          have hown5 : IdsO w5 v' (((l.take (k + 1)).filter fun x => atE x id).map (·.id)) ob' := by
            rw [hf1.out]
            unfold IdsO
            rw [List.length_append, List.map_append]
            exact h1
          have hsz := HGR.out.size
          have hob5 : ∀ b, ob' = some b → w.heap.size ≤ b := by
            intro b hb
            rcases h3 with h3 | ⟨g, h3, hge⟩
            · exact HOB.out b (by rw [← h3]; exact hb)
            · rw [h3] at hb; cases hb; first | omega | (simp at hge; omega)
          have hg5 : Grow w w5 := (HGR.out.step (HW.out _)).modd h2 (fun b hb => HOB.out b hb)
          have H5 := Lib.hid hown5; have HO5 := Lib.hid hob5; have HG5 := Lib.hid hg5
          clear h1 h2 h3 hown5 hob5 hg5 hsz
          go_wp2_with fail
          go_roundg (l.length - (k + 1))
          case measure => omega
          case rel => exact ⟨k + 1, ob', by omega, rfl, by go_num, H5.out, HO5.out, HG5.out⟩
        · have hq2 : (p.to_ == id) = false := by simpa using hp2
          have HATE := Lib.hid (show atE p id = false by unfold atE; simp [hp1, hp2])
          clear hp1 hp2
          have hf1 : Hid (((l.take (k + 1)).filter fun x => atE x id).map (·.id) = fl) := Lib.hid (by rw [HT.out, List.filter_append, ← HFF.out]; simp [HATE.out])
          go_wp2_with fail
          go_roundg (l.length - (k + 1))
          case measure => omega
          case rel => exact ⟨k + 1, ob, by omega, rfl, by go_num, by rw [hf1.out]; exact HOWN.out, HOB.out, HGR.out⟩
    · have hkk : l.take k = l := List.take_of_length_le (by omega)
      rw [hkk] at HOWN
      clear hown hob hgr
      simp only [hkk]
      go_wp2
      go_ret
      exact ⟨_, ob, rfl, HOWN.out, HOB.out, HGR.out⟩

def RPropsPost (S : Nat → Prop) (G : PGraph) (id : Int) (w : World) (e : Ending) (w' : World) : Prop :=
  ((findP G id = none ∧ e = .returned (.tuple #[.slice none 0 0, .bool false])) ∨ ∃ ps pv, findP G id = some ps ∧ e = .returned (.tuple #[pv, .bool true]) ∧ PropsR S w pv ps) ∧ w' = w
theorem idxZ_none {α : Type} {f : α → Int} {l : List α} {id : Int} (h : (l.any fun y => decide (f y = id)) = false) : idxZ f l id = -1 :=
  idxZ_miss fun y hy => by have := List.any_eq_false.1 h y hy; simpa using this
theorem idxZ_some {α : Type} {f : α → Int} {l : List α} {id : Int} (h : (l.any fun y => decide (f y = id)) = true) : ∃ (k : Nat) (x : α), idxZ f l id = k ∧ k < l.length ∧ l[k]? = some x ∧ f x = id := by
  rcases idxZ_at f l id with ⟨-, h2⟩ | ⟨k, x, h1, h2, h3, -⟩
  · rw [h] at h2; cases h2
  · exact ⟨k, x, h1, (List.getElem?_eq_some_iff.1 h2).1, h2, h3⟩
theorem findP_node {G : PGraph} {id : Int} {k : Nat} {x : PNode} (hs : (G.nodes.map (·.id)).Pairwise (· < ·)) (hx : G.nodes[k]? = some x) (hid : x.id = id) : findP G id = some x.props := by
  unfold findP
  rw [find_idx (fun x : PNode => x.id) hs hx hid]
theorem findP_edge {G : PGraph} {id : Int} {k : Nat} {x : PEdge} (hn : hasN G id = false) (hs : (G.edges.map (·.id)).Pairwise (· < ·)) (hx : G.edges[k]? = some x) (hid : x.id = id) : findP G id = some x.props := by
  unfold findP
  rw [find_none (fun x : PNode => x.id) hn, find_idx (fun x : PEdge => x.id) hs hx hid]
theorem findP_no {G : PGraph} {id : Int} (hn : hasN G id = false) (he : hasE G id = false) : findP G id = none := by
  unfold findP
  rw [find_none (fun x : PNode => x.id) hn, find_none (fun x : PEdge => x.id) he]
set_option maxRecDepth 100000 in
set_option maxHeartbeats 2000000 in
theorem refProps (S : Nat → Prop) (B : Nat) (G : PGraph) (id : Int) (w : World) (h : GraphRd 42 S w B G) (hs : (G.nodes.map (·.id)).Pairwise (· < ·)) (hse : (G.edges.map (·.id)).Pairwise (· < ·)) :
    Calls Tryz.prog 97 #[.pointer (some ⟨B, 0, none⟩), .int .i64 id] w (RPropsPost S G id w) := by
  have HR := Lib.hid h; have HSN := Lib.hid hs; have HSE := Lib.hid hse
  obtain ⟨na, nc, ea, ec, hB, c0, c1, c2, hn, he⟩ := h.read
  obtain ⟨_, _, hv, hal, hac, hA⟩ := SlR.open hn
  simp only [Value.slice.injEq, true_and] at hv
  obtain ⟨rfl, rfl⟩ := hv
  obtain ⟨_, _, hv, hel, hec, hE⟩ := SlR.open he
  simp only [Value.slice.injEq, true_and] at hv
  obtain ⟨rfl, rfl⟩ := hv
  unfold maxLen at hac hec
  have HA := Lib.hid hA; have HE := Lib.hid hE
  clear h hn he hA hE hs hse
  go_enter Tryz.func97, Tryz.ntmps97
  go_wp2_with fail
  refine (refNode S B G id _ HR.out).mono ?_
  rintro e w2 ⟨rfl, rfl⟩
  cases hN : hasN G id
  · rw [idxZ_none (f := fun x : PNode => x.id) hN]
    have HN := Lib.hid hN; clear hN
    go_wp2_with fail
    refine (refEdge S B G id _ HR.out).mono ?_
    rintro e w2 ⟨rfl, rfl⟩
    cases hE : hasE G id
    · rw [idxZ_none (f := fun x : PEdge => x.id) hE]
      have HX := Lib.hid (findP_no HN.out hE); clear hE
      go_wp2
      go_ret2
      exact ⟨.inl ⟨HX.out, rfl⟩, rfl⟩
    · obtain ⟨k, x, hz, hkl, hx, hid⟩ := idxZ_some (f := fun x : PEdge => x.id) hE
      rw [hz]
      have HX := Lib.hid (findP_edge HN.out HSE.out hx hid)
      obtain ⟨ba, oa, ra, rfl, hSa, hba, hRa, hca⟩ := HE.out k x hx
      obtain ⟨pva, hba', a0, a1, a2, a3, a4, hpa⟩ := hRa.at hba (Grow.rfl' _) hca
      obtain ⟨pa, pc, rfl⟩ := hpa.isSlice
      have HPA := Lib.hid hpa
      have hk0 : decide ((0 : Int) ≤ (k : Int)) = true := by simp
      clear hE hz hx hid hca hRa hSa hba hpa
      go_wp2
      go_ret2
      exact ⟨.inr ⟨x.props, _, HX.out, rfl, HPA.out⟩, rfl⟩
  · obtain ⟨k, x, hz, hkl, hx, hid⟩ := idxZ_some (f := fun x : PNode => x.id) hN
    rw [hz]
    have HX := Lib.hid (findP_node HSN.out hx hid)
    obtain ⟨ba, oa, ra, rfl, hSa, hba, hRa, hca⟩ := HA.out k x hx
    obtain ⟨pva, hba', a0, a1, a2, hpa⟩ := hRa.at hba (Grow.rfl' _) hca
    obtain ⟨pa, pc, rfl⟩ := hpa.isSlice
    have HPA := Lib.hid hpa
    have hk0 : decide ((0 : Int) ≤ (k : Int)) = true := by simp
    clear hN hz hx hid hca hRa hSa hba hpa
    go_wp2
    go_ret2
    exact ⟨.inr ⟨x.props, _, HX.out, rfl, HPA.out⟩, rfl⟩
end Go.Hg

namespace Go.Hg
open Go.RowKit Go.Proofs

theorem ob_case {o o' : Option Nat} {n m : Nat} (h : o' = o ∨ ∃ g, o' = some g ∧ m ≤ g) (hn : n ≤ m) (ho : ∀ g, o = some g → n ≤ g) : ∀ g, o' = some g → n ≤ g := by
  intro g hg
  rcases h with h | ⟨g', h, hm⟩
  · exact ho g (h ▸ hg)
  · rw [h] at hg
    cases hg
    omega
theorem raddN_close {T : TypeId} {S R : Nat → Prop} {w wA w5 w6 : World} {B : Nat} {G : PGraph} {on oe on5 : Option Nat} {ev v5 : Value} {rows : List (List Value)} {o : POp}
    (h2 : S B) (h3 : ¬ R B) (h4 : ∀ b, R b → S b ∧ b < w.heap.size) (h5 : ∀ g, on = some g → S g ∧ ¬ R g ∧ g ≠ B ∧ g < w.heap.size ∧ oe ≠ some g) (h6 : ∀ g, oe = some g → S g ∧ ¬ R g ∧ g ≠ B ∧ g < w.heap.size ∧ on ≠ some g)
    (h8 : OwnL w 115 5 (REdge R w) ev G.edges oe) (r1 : rows.length = G.nodes.length) (r3 : ∀ (k : Nat) x r, G.nodes[k]? = some x → rows[k]? = some r → RNode R w x r ∧ r.length = 3)
    (hA : Mod (fun b => b = B) w wA) (k1 : OwnS w5 113 3 v5 (G.nodes.length + 1) (rows.flatten ++ [.int .i64 G.next, .string o.typ, .slice none 0 0]) on5) (k2 : Mod (fun k => on = some k) wA w5)
    (k3 : on5 = on ∨ ∃ g, on5 = some g ∧ wA.heap.size ≤ g) (m56 : Mod (fun b => b = B) w5 w6) (hb6 : w6.heap[B]? = some (.cells #[v5, ev, .int .i64 (G.next + 1)] T (0, 0))) (hBw : B < w.heap.size) :
    GraphOk T (fun b => S b ∨ w.heap.size ≤ b) w6 B (addNodeG o G) ∧ Mod S w w6 := by
  have m5 : Mod (fun b => b = B ∨ on = some b) w w5 := (hA.mono (fun _ h => .inl h)).step (k2.mono (fun _ h => .inr h))
  have m6 : Mod (fun b => b = B ∨ on = some b) w w6 := m5.step (m56.mono (fun _ h => .inl h))
  have hsz := hA.size
  have hR : ∀ b, R b → ¬ (b = B ∨ on = some b) := fun b hb h => h.elim (fun e => h3 (e ▸ hb)) (fun e => (h5 b e).2.1 hb)
  have h5B : ∀ g, on5 = some g → g ≠ B ∧ (S g ∨ w.heap.size ≤ g) ∧ ¬ R g := by
    intro g hg
    rcases k3 with k3 | ⟨g', k3, hge⟩
    · rw [k3] at hg
      exact ⟨(h5 g hg).2.2.1, .inl (h5 g hg).1, (h5 g hg).2.1⟩
    · rw [k3] at hg; cases hg
      exact ⟨by omega, .inr (by omega), fun hh => by have := (h4 _ hh).2; omega⟩
  refine ⟨⟨v5, ev, R, on5, oe, hb6, .inl h2, h3, fun b hb => ⟨.inl (h4 b hb).1, Nat.lt_of_lt_of_le (h4 b hb).2 m6.size⟩, fun g hg => (h5B g hg).2, fun g hg => ⟨.inl (h6 g hg).1, (h6 g hg).2.1⟩, ?_, ?_⟩, m6.mono (fun b hb => hb.elim (fun e => e ▸ h2) (fun e => (h5 b e).1))⟩
  · refine ⟨rows ++ [[.int .i64 G.next, .string o.typ, .slice none 0 0]], by show _ = (G.nodes ++ [_]).length; simp [r1], fun k y r hk hk' => ?_, ?_⟩
    · change (G.nodes ++ [_])[k]? = some y at hk
      by_cases hlt : k < G.nodes.length
      · rw [List.getElem?_append_left hlt] at hk
        rw [List.getElem?_append_left (by omega)] at hk'
        obtain ⟨a, b⟩ := r3 k y r hk hk'
        exact ⟨a.mod m6 hR, b⟩
      · rw [List.getElem?_append_right (by omega)] at hk
        rw [List.getElem?_append_right (by omega), r1] at hk'
        have e : k - G.nodes.length = 0 := by have := (List.getElem?_eq_some_iff.1 hk).1; simp at this; omega
        rw [e] at hk hk'
        simp at hk hk'
        subst hk; subst hk'
        exact ⟨⟨_, rfl, PropsR.nil _ _⟩, rfl⟩
    · have h := k1.keep (w' := w6) (fun g hg => m56.block g (k1.lt g hg) (h5B g hg).1)
      show OwnS _ _ _ _ (G.nodes ++ [_]).length _ _
      rw [List.length_append, List.length_singleton]
      simpa using h
  · exact h8.edgesMod m6 (fun g hg h => h.elim (h6 g hg).2.2.1 (h6 g hg).2.2.2.2) hR

theorem raddE_close {T : TypeId} {S R : Nat → Prop} {w wA w5 w6 : World} {B : Nat} {G : PGraph} {on oe on5 : Option Nat} {nv v5 : Value} {rows : List (List Value)} {o : POp}
    (h2 : S B) (h3 : ¬ R B) (h4 : ∀ b, R b → S b ∧ b < w.heap.size) (h5 : ∀ g, on = some g → S g ∧ ¬ R g ∧ g ≠ B ∧ g < w.heap.size ∧ oe ≠ some g) (h6 : ∀ g, oe = some g → S g ∧ ¬ R g ∧ g ≠ B ∧ g < w.heap.size ∧ on ≠ some g)
    (h7 : OwnL w 113 3 (RNode R w) nv G.nodes on) (r1 : rows.length = G.edges.length) (r3 : ∀ (k : Nat) x r, G.edges[k]? = some x → rows[k]? = some r → REdge R w x r ∧ r.length = 5)
    (hA : Mod (fun b => b = B) w wA) (k1 : OwnS w5 115 5 v5 (G.edges.length + 1) (rows.flatten ++ [.int .i64 G.next, .string o.typ, .int .i64 o.from_, .int .i64 o.to_, .slice none 0 0]) on5) (k2 : Mod (fun k => oe = some k) wA w5)
    (k3 : on5 = oe ∨ ∃ g, on5 = some g ∧ wA.heap.size ≤ g) (m56 : Mod (fun b => b = B) w5 w6) (hb6 : w6.heap[B]? = some (.cells #[nv, v5, .int .i64 (G.next + 1)] T (0, 0))) (hBw : B < w.heap.size) :
    GraphOk T (fun b => S b ∨ w.heap.size ≤ b) w6 B (addEdgeG o G) ∧ Mod S w w6 := by
  have m5 : Mod (fun b => b = B ∨ oe = some b) w w5 := (hA.mono (fun _ h => .inl h)).step (k2.mono (fun _ h => .inr h))
  have m6 : Mod (fun b => b = B ∨ oe = some b) w w6 := m5.step (m56.mono (fun _ h => .inl h))
  have hsz := hA.size
  have hR : ∀ b, R b → ¬ (b = B ∨ oe = some b) := fun b hb h => h.elim (fun e => h3 (e ▸ hb)) (fun e => (h6 b e).2.1 hb)
  have h5B : ∀ g, on5 = some g → g ≠ B ∧ (S g ∨ w.heap.size ≤ g) ∧ ¬ R g := by
    intro g hg
    rcases k3 with k3 | ⟨g', k3, hge⟩
    · rw [k3] at hg
      exact ⟨(h6 g hg).2.2.1, .inl (h6 g hg).1, (h6 g hg).2.1⟩
    · rw [k3] at hg; cases hg
      exact ⟨by omega, .inr (by omega), fun hh => by have := (h4 _ hh).2; omega⟩
  refine ⟨⟨nv, v5, R, on, on5, hb6, .inl h2, h3, fun b hb => ⟨.inl (h4 b hb).1, Nat.lt_of_lt_of_le (h4 b hb).2 m6.size⟩, fun g hg => ⟨.inl (h5 g hg).1, (h5 g hg).2.1⟩, fun g hg => (h5B g hg).2, ?_, ?_⟩, m6.mono (fun b hb => hb.elim (fun e => e ▸ h2) (fun e => (h6 b e).1))⟩
  · exact h7.nodesMod m6 (fun g hg h => h.elim (h5 g hg).2.2.1 (h5 g hg).2.2.2.2) hR
  · refine ⟨rows ++ [[.int .i64 G.next, .string o.typ, .int .i64 o.from_, .int .i64 o.to_, .slice none 0 0]], by show _ = (G.edges ++ [_]).length; simp [r1], fun k y r hk hk' => ?_, ?_⟩
    · change (G.edges ++ [_])[k]? = some y at hk
      by_cases hlt : k < G.edges.length
      · rw [List.getElem?_append_left hlt] at hk
        rw [List.getElem?_append_left (by omega)] at hk'
        obtain ⟨a, b⟩ := r3 k y r hk hk'
        exact ⟨a.mod m6 hR, b⟩
      · rw [List.getElem?_append_right (by omega)] at hk
        rw [List.getElem?_append_right (by omega), r1] at hk'
        have e : k - G.edges.length = 0 := by have := (List.getElem?_eq_some_iff.1 hk).1; simp at this; omega
        rw [e] at hk hk'
        simp at hk hk'
        subst hk; subst hk'
        exact ⟨⟨_, rfl, PropsR.nil _ _⟩, rfl⟩
    · have h := k1.keep (w' := w6) (fun g hg => m56.block g (k1.lt g hg) (h5B g hg).1)
      show OwnS _ _ _ _ (G.edges ++ [_]).length _ _
      rw [List.length_append, List.length_singleton]
      simpa using h

theorem rcutN_close {T : TypeId} {S R : Nat → Prop} {w w6 w7 : World} {B k : Nat} {G : PGraph} {on oe o6 : Option Nat} {ev v6 : Value} {rows : List (List Value)}
    (h2 : S B) (h3 : ¬ R B) (h4 : ∀ b, R b → S b ∧ b < w.heap.size) (_h5 : ∀ g, on = some g → S g ∧ ¬ R g ∧ g ≠ B ∧ g < w.heap.size ∧ oe ≠ some g) (h6 : ∀ g, oe = some g → S g ∧ ¬ R g ∧ g ≠ B ∧ g < w.heap.size ∧ on ≠ some g)
    (h8 : OwnL w 115 5 (REdge R w) ev G.edges oe) (r1 : rows.length = G.nodes.length) (r2 : ∀ r ∈ rows, r.length = 3) (r3 : ∀ (k : Nat) x r, G.nodes[k]? = some x → rows[k]? = some r → RNode R w x r ∧ r.length = 3)
    (hkl : k < G.nodes.length) (k1 : OwnS w6 113 3 v6 (G.nodes.length - 1) (rows.flatten.take (k * 3) ++ rows.flatten.drop ((k + 1) * 3)) o6) (k2 : Grow w w6)
    (k3 : ∀ g, o6 = some g → w.heap.size ≤ g) (m67 : Mod (fun b => b = B) w6 w7) (hb7 : w7.heap[B]? = some (.cells #[v6, ev, .int .i64 G.next] T (0, 0))) (hBw : B < w.heap.size) :
    GraphOk T (fun b => S b ∨ w.heap.size ≤ b) w7 B ⟨G.nodes.take k ++ G.nodes.drop (k + 1), G.edges, G.next⟩ ∧ Mod (fun b => b = B) w w7 := by
  have m7 : Mod (fun b => b = B) w w7 := (Mod.of_grow k2).step m67
  have hRB : ∀ b, R b → ¬ (b = B) := fun b hb e => h3 (e ▸ hb)
  refine ⟨⟨v6, ev, R, o6, oe, hb7, .inl h2, h3, fun b hb => ⟨.inl (h4 b hb).1, Nat.lt_of_lt_of_le (h4 b hb).2 m7.size⟩, fun g hg => ⟨.inr (k3 g hg), fun hh => by have := (h4 _ hh).2; have := k3 g hg; omega⟩, fun g hg => ⟨.inl (h6 g hg).1, (h6 g hg).2.1⟩, ?_, ?_⟩, m7⟩
  · refine OwnL.erase r1 r2 r3 (fun x r _ hR => hR.mod m7 hRB) hkl ?_
    exact k1.keep (fun g hg => m67.block g (k1.lt g hg) (fun e => by have := k3 g hg; omega))
  · exact h8.edgesMod m7 (fun g hg e => (h6 g hg).2.2.1 e) hRB

theorem rcutE_close {T : TypeId} {S R : Nat → Prop} {w w6 w7 : World} {B k : Nat} {G : PGraph} {on oe o6 : Option Nat} {nv v6 : Value} {rows : List (List Value)}
    (h2 : S B) (h3 : ¬ R B) (h4 : ∀ b, R b → S b ∧ b < w.heap.size) (h5 : ∀ g, on = some g → S g ∧ ¬ R g ∧ g ≠ B ∧ g < w.heap.size ∧ oe ≠ some g) (_h6 : ∀ g, oe = some g → S g ∧ ¬ R g ∧ g ≠ B ∧ g < w.heap.size ∧ on ≠ some g)
    (h7 : OwnL w 113 3 (RNode R w) nv G.nodes on) (r1 : rows.length = G.edges.length) (r2 : ∀ r ∈ rows, r.length = 5) (r3 : ∀ (k : Nat) x r, G.edges[k]? = some x → rows[k]? = some r → REdge R w x r ∧ r.length = 5)
    (hkl : k < G.edges.length) (k1 : OwnS w6 115 5 v6 (G.edges.length - 1) (rows.flatten.take (k * 5) ++ rows.flatten.drop ((k + 1) * 5)) o6) (k2 : Grow w w6)
    (k3 : ∀ g, o6 = some g → w.heap.size ≤ g) (m67 : Mod (fun b => b = B) w6 w7) (hb7 : w7.heap[B]? = some (.cells #[nv, v6, .int .i64 G.next] T (0, 0))) (hBw : B < w.heap.size) :
    GraphOk T (fun b => S b ∨ w.heap.size ≤ b) w7 B ⟨G.nodes, G.edges.take k ++ G.edges.drop (k + 1), G.next⟩ ∧ Mod (fun b => b = B) w w7 := by
  have m7 : Mod (fun b => b = B) w w7 := (Mod.of_grow k2).step m67
  have hRB : ∀ b, R b → ¬ (b = B) := fun b hb e => h3 (e ▸ hb)
  refine ⟨⟨nv, v6, R, on, o6, hb7, .inl h2, h3, fun b hb => ⟨.inl (h4 b hb).1, Nat.lt_of_lt_of_le (h4 b hb).2 m7.size⟩, fun g hg => ⟨.inl (h5 g hg).1, (h5 g hg).2.1⟩, fun g hg => ⟨.inr (k3 g hg), fun hh => by have := (h4 _ hh).2; have := k3 g hg; omega⟩, ?_, ?_⟩, m7⟩
  · exact h7.nodesMod m7 (fun g hg e => (h5 g hg).2.2.1 e) hRB
  · refine OwnL.erase r1 r2 r3 (fun x r _ hR => hR.mod m7 hRB) hkl ?_
    exact k1.keep (fun g hg => m67.block g (k1.lt g hg) (fun e => by have := k3 g hg; omega))

set_option maxRecDepth 100000 in
set_option maxHeartbeats 4000000 in
theorem refCut (S : Nat → Prop) (B : Nat) (G : PGraph) (id : Int) (w : World) (h : GraphOk 42 S w B G) (hi : G.edges.length ≤ 1024) (hs : (G.edges.map (·.id)).Pairwise (· < ·)) (hn : hasE G id = true) :
    Calls Tryz.prog 56 #[.pointer (some ⟨B, 0, none⟩), .int .i64 id] w fun e w' => (∃ v, e = .returned v) ∧ GraphOk 42 (fun b => S b ∨ w.heap.size ≤ b) w' B ⟨G.nodes, G.edges.filter (fun x => !decide (x.id = id)), G.next⟩ ∧ Mod (fun b => b = B) w w' := by
  obtain ⟨iP, hiP, hzP0, hzP1, hzP2⟩ := info_parts infoEdge
  have HRD := Lib.hid h.rd
  obtain ⟨nv, ev, R, on, oe, h1, h2, h3, h4, h5, h6, h7, h8⟩ := h.parts (by decide) (by decide)
  have H2 := Lib.hid h2; have H3 := Lib.hid h3; have H4 := Lib.hid h4; have H5 := Lib.hid h5; have H6 := Lib.hid h6; have H7 := Lib.hid h7; have H8 := Lib.hid h8
  have HLN := Lib.hid hi; have HS := Lib.hid hs
  have HBW := Lib.hid h1
  have hBW : B < w.heap.size := blk_lt h1
  obtain ⟨k, x, hz, hkl, hx, hid⟩ := idxZ_some (f := fun x : PEdge => x.id) hn
  have HZ := Lib.hid hz; have HX := Lib.hid hx; have HXI := Lib.hid hid
  clear h h1 h2 h3 h4 h5 h6 h7 h8 hi hs hn hz hx hid
  obtain ⟨rows, hr1, hr2, hr3, hos⟩ := H8.out.rowLen
  have HR1 := Lib.hid hr1; have HR2 := Lib.hid hr2; have HR3 := Lib.hid hr3
  have hxl := hos.1
  obtain ⟨g, cap, cur, hnv, hog, hblk, hnc, hcm, hcs, htk⟩ : ∃ g cap, ∃ cur : Array Value, ev = .slice (some ⟨g, 0, none⟩) G.edges.length cap ∧ oe = some g ∧ w.heap[g]? = some (.cells cur 115 (0, 0)) ∧ G.edges.length ≤ cap ∧ cap ≤ maxLen ∧ cur.size = cap * 5 ∧ cur.toList.take (G.edges.length * 5) = rows.flatten := by
    rcases hos.2 with ⟨_, _, h, _⟩ | ⟨g, cap, cur, h1, h2, h3, h4, h5, h6, h7⟩
    · omega
    · exact ⟨g, cap, cur, h1, h2, h3, h4, h5, h6, h7⟩
  subst hnv
  have hgw : g < w.heap.size := blk_lt hblk
  have hrd1 : ∀ w', Grow w w' → Rd w' 5 (.slice (some ⟨g, 0, none⟩) k cap) k (rows.flatten.take (k * 5)) := fun w' hg => ⟨by rw [List.length_take, hxl]; have := Nat.mul_le_mul_right 5 (Nat.le_of_lt hkl); omega, _, _, rfl, .inr ⟨_, rfl, fun j u hu => by
    rw [Addr.add_lit, blk_cell ((hg.heapEq hgw).trans hblk), ← Array.getElem?_toList]
    rw [← htk, List.take_take, List.getElem?_take] at hu
    split at hu
    · simpa using hu
    · cases hu⟩⟩
  have hrd2 : ∀ w' o c, Grow w w' → (cap = k + 1 ∨ o = (k + 1) * 5) → Rd w' 5 (.slice (some ⟨g, o, none⟩) (G.edges.length - (k + 1)) c) (G.edges.length - (k + 1)) (rows.flatten.drop ((k + 1) * 5)) := fun w' o c hg ho => ⟨by rw [List.length_drop, hxl, Nat.sub_mul], _, _, rfl, by
    rcases ho with ho | rfl
    · exact .inl (by omega)
    · exact .inr ⟨_, rfl, fun j u hu => by
        rw [Addr.add_lit, blk_cell ((hg.heapEq hgw).trans hblk), ← Array.getElem?_toList]
        rw [← htk, List.getElem?_drop, List.getElem?_take] at hu
        split at hu
        · exact hu
        · cases hu⟩⟩
  have HRD1 := Lib.hid hrd1; have HRD2 := Lib.hid hrd2
  have HOS0 := Lib.hid (OwnS.lit w.drew #[] 115 5 0 (by unfold maxLen; omega) (by simp))
  have HG1 := Lib.hid (show ∀ o1, Grow w (w.drew.alloc o1) from fun o1 => ((Grow.rfl' w).drewd).allocd o1)
  have HONE := Lib.hid (OwnL.one_flatE HR1.out HR3.out)
  have g0 : w.cell? ⟨B, 1, none⟩ = some (.slice (some ⟨g, 0, none⟩) G.edges.length cap) := by rw [blk_cell HBW.out]; rfl
  have f0 := blk_free HBW.out 1
  have hq1 : (0 : Int) ≤ (k : Int) + 1 := by omega
  have hq2 : (k : Int) ≤ (k : Int) + 1 := by omega
  have hq3 : (k : Int) + 1 ≤ (G.edges.length : Int) := by omega
  have hq4 : ((k : Int) + 1).toNat = k + 1 := by omega
  have hq5 : (G.edges.length : Int) ≤ (cap : Int) := by omega
  have hq6 : (k : Int) ≤ (cap : Int) := by omega
  have hq7 : IntKind.i64.wrap ((k : Int) + 1) = (k : Int) + 1 := by have := HLN.out; rw [IntKind.wrap_i64]; omega
  have HHOG := Lib.hid hog
  clear hr1 hr2 hr3 hos hxl hblk hcs htk hrd1 hrd2 hog
  unfold maxLen at hcm
  clear g0 f0
  go_enter Tryz.func56, Tryz.ntmps56
  go_wp2_with fail
  refine (refEdge S B G id _ HRD.out).mono ?_
  rintro e w2 ⟨rfl, hw2⟩
  rw [hw2, HZ.out]
  clear hw2 w2
  have g0 : w.cell? ⟨B, 1, none⟩ = some (.slice (some ⟨g, 0, none⟩) G.edges.length cap) := (blk_cell HBW.out 1).trans rfl
  have f0 := blk_free HBW.out 1
  by_cases hce : cap = k + 1
  · have hnk : G.edges.length = k + 1 := by omega
    have HRD3 := Lib.hid (show ∀ w', Grow w w' → Rd w' 5 (.slice (some ⟨g, 0, none⟩) 0 0) 0 (rows.flatten.drop ((k + 1) * 5)) from fun w' hg => by
      have := HRD2.out w' 0 0 hg (.inl hce)
      rwa [hnk, Nat.sub_self] at this)
    subst hce
    go_wp2_with fail
    go_region_law (first | (refine step_append_S rfl (.tmp 9) (.tmp 15) 40 rfl 115 iP _ 5 64 Tryz.underlying40 hiP hzP0 hzP1 hzP2 rfl (by decide) (.slice (some ⟨w.heap.size, 0, none⟩) 0 0) 0 [] (some w.heap.size) (by rfl) HOS0.out (.slice (some ⟨g, 0, none⟩) k (k + 1)) (by rfl) k _ (HRD1.out _ (HG1.out _)) (fun u hu => HONE.out u (List.mem_of_mem_take hu)) (by have := HLN.out; unfold maxLen; omega) (by have := HLN.out; omega) ?_; intro v5 w5 o5 k1 k2 k3 k4; rw [Nat.zero_add, List.nil_append] at k1; obtain ⟨oa5, cap5, rfl, -, -⟩ := k1.isSlice; have K1 := Lib.hid k1; have K2 := Lib.hid ((HG1.out _).modd k2 (fun b hb => by cases hb; exact Nat.le_refl _)); have K3 := Lib.hid (ob_case k3 (HG1.out _).size (fun g hg => by cases hg; exact Nat.le_refl _)); have hb5 := (K2.out.heapEq hBW).trans HBW.out; have HB5 := Lib.hid hb5; have hB5 := blk_lt hb5; have q0 : w5.cell? ⟨B, 1, none⟩ = some (.slice (some ⟨g, 0, none⟩) G.edges.length (k + 1)) := (blk_cell hb5 1).trans rfl; have qf := blk_free hb5 1; clear hb5 k1 k2 k3 k4) | (refine step_append_S rfl (.tmp 16) (.tmp 23) 40 rfl 115 iP _ 5 64 Tryz.underlying40 hiP hzP0 hzP1 hzP2 rfl (by decide) (.slice oa5 k cap5) k _ o5 (by rfl) K1.out (.slice (some ⟨g, 0, none⟩) 0 0) (by rfl) 0 _ (HRD3.out _ K2.out) (fun u hu => HONE.out u (List.mem_of_mem_drop hu)) (by have := HLN.out; unfold maxLen; omega) (by have := HLN.out; omega) ?_; intro v6 w6 o6 j1 j2 j3 j4; rw [show k + 0 = G.edges.length - 1 by omega] at j1; obtain ⟨oa6, cap6, rfl, -, -⟩ := j1.isSlice; have J1 := Lib.hid j1; have J2 := Lib.hid (K2.out.modd j2 (fun b hb => K3.out b hb)); have J3 := Lib.hid (ob_case j3 K2.out.size K3.out); have hb6 := (J2.out.heapEq hBW).trans HBW.out; have HB6 := Lib.hid hb6; have hB6 := blk_lt hb6; have r0 : w6.cell? ⟨B, 1, none⟩ = some (.slice (some ⟨g, 0, none⟩) G.edges.length (k + 1)) := (blk_cell hb6 1).trans rfl; have rf6 := blk_free hb6 1; clear hb6 j1 j2 j3 j4))
    all_goals
      go_wp2
      go_end0
      have hcl := rcutE_close H2.out H3.out H4.out H5.out H6.out H7.out HR1.out HR2.out HR3.out hkl J1.out J2.out J3.out ((Mod.rfl' (fun b => b = B) w6).setd (p := ⟨B, 1, none⟩) (.inl rfl) _) (heap_setCell_same w6 B 1 _ _ _ HB6.out) hBW
      try rw [show G.edges.length - 1 = k by omega] at hcl
      refine ⟨⟨_, rfl⟩, ?_, hcl.2⟩
      rw [filter_idx (fun x : PEdge => x.id) HS.out HX.out HXI.out]
      exact hcl.1
  · have hcd : ¬ cap = k + 1 := hce
    go_wp2_with fail
    go_region_law (first | (refine step_append_S rfl (.tmp 9) (.tmp 15) 40 rfl 115 iP _ 5 64 Tryz.underlying40 hiP hzP0 hzP1 hzP2 rfl (by decide) (.slice (some ⟨w.heap.size, 0, none⟩) 0 0) 0 [] (some w.heap.size) (by rfl) HOS0.out (.slice (some ⟨g, 0, none⟩) k cap) (by rfl) k _ (HRD1.out _ (HG1.out _)) (fun u hu => HONE.out u (List.mem_of_mem_take hu)) (by have := HLN.out; unfold maxLen; omega) (by have := HLN.out; omega) ?_; intro v5 w5 o5 k1 k2 k3 k4; rw [Nat.zero_add, List.nil_append] at k1; obtain ⟨oa5, cap5, rfl, -, -⟩ := k1.isSlice; have K1 := Lib.hid k1; have K2 := Lib.hid ((HG1.out _).modd k2 (fun b hb => by cases hb; exact Nat.le_refl _)); have K3 := Lib.hid (ob_case k3 (HG1.out _).size (fun g hg => by cases hg; exact Nat.le_refl _)); have hb5 := (K2.out.heapEq hBW).trans HBW.out; have HB5 := Lib.hid hb5; have hB5 := blk_lt hb5; have q0 : w5.cell? ⟨B, 1, none⟩ = some (.slice (some ⟨g, 0, none⟩) G.edges.length cap) := (blk_cell hb5 1).trans rfl; have qf := blk_free hb5 1; clear hb5 k1 k2 k3 k4) | (refine step_append_S rfl (.tmp 16) (.tmp 23) 40 rfl 115 iP _ 5 64 Tryz.underlying40 hiP hzP0 hzP1 hzP2 rfl (by decide) (.slice oa5 k cap5) k _ o5 (by rfl) K1.out (.slice (some ⟨g, ((k + 1) * 5), none⟩) (G.edges.length - (k + 1)) (cap - (k + 1))) (by rfl) (G.edges.length - (k + 1)) _ (HRD2.out _ _ _ K2.out (.inr rfl)) (fun u hu => HONE.out u (List.mem_of_mem_drop hu)) (by have := HLN.out; unfold maxLen; omega) (by have := HLN.out; omega) ?_; intro v6 w6 o6 j1 j2 j3 j4; rw [show k + (G.edges.length - (k + 1)) = G.edges.length - 1 by omega] at j1; obtain ⟨oa6, cap6, rfl, -, -⟩ := j1.isSlice; have J1 := Lib.hid j1; have J2 := Lib.hid (K2.out.modd j2 (fun b hb => K3.out b hb)); have J3 := Lib.hid (ob_case j3 K2.out.size K3.out); have hb6 := (J2.out.heapEq hBW).trans HBW.out; have HB6 := Lib.hid hb6; have hB6 := blk_lt hb6; have r0 : w6.cell? ⟨B, 1, none⟩ = some (.slice (some ⟨g, 0, none⟩) G.edges.length cap) := (blk_cell hb6 1).trans rfl; have rf6 := blk_free hb6 1; clear hb6 j1 j2 j3 j4))
    all_goals
      go_wp2
      go_end0
      have hcl := rcutE_close H2.out H3.out H4.out H5.out H6.out H7.out HR1.out HR2.out HR3.out hkl J1.out J2.out J3.out ((Mod.rfl' (fun b => b = B) w6).setd (p := ⟨B, 1, none⟩) (.inl rfl) _) (heap_setCell_same w6 B 1 _ _ _ HB6.out) hBW
      try rw [show G.edges.length - 1 = k by omega] at hcl
      refine ⟨⟨_, rfl⟩, ?_, hcl.2⟩
      rw [filter_idx (fun x : PEdge => x.id) HS.out HX.out HXI.out]
      exact hcl.1
end Go.Hg

namespace Go.Hg
open Go.RowKit Go.Proofs

theorem mayG_1 {c : PCat} {o : POp} {G : PGraph} (h : o.kind = 1) : mayG c o G = if memS o.typ c.nodes = false then 140 else if fullG G = true then 50 else 0 := by unfold mayG; rw [if_pos h]
theorem mayG_2 {c : PCat} {o : POp} {G : PGraph} (h : o.kind = 2) : mayG c o G = if hasN G o.id = false then 60 else if o.cascade = false ∧ (G.edges.any fun x => atE x o.id) = true then 160 else 0 := by
  unfold mayG; rw [if_neg (by omega), if_pos h]
theorem mayG_3 {c : PCat} {o : POp} {G : PGraph} (h : o.kind = 3) : mayG c o G = if memS o.typ c.edges = false then 140 else if hasN G o.from_ = false ∨ hasN G o.to_ = false then 141 else if fullG G = true then 50 else 0 := by
  unfold mayG; rw [if_neg (by omega), if_neg (by omega), if_pos h]
theorem mayG_4 {c : PCat} {o : POp} {G : PGraph} (h : o.kind = 4) : mayG c o G = if hasE G o.id = false then 60 else 0 := by
  unfold mayG; rw [if_neg (by omega), if_neg (by omega), if_neg (by omega), if_pos h]
theorem mayG_5b {c : PCat} {o : POp} {G : PGraph} (h : o.kind = 5) (hn : ¬ NameOk o.name ∨ (¬ GoodV o.v ∧ ¬ BlankV o.v)) : mayG c o G = 142 := by
  unfold mayG; rw [if_neg (by omega), if_neg (by omega), if_neg (by omega), if_neg (by omega), if_pos h, if_pos hn]
theorem mayG_5n {c : PCat} {o : POp} {G : PGraph} (h : o.kind = 5) (hn : ¬ (¬ NameOk o.name ∨ (¬ GoodV o.v ∧ ¬ BlankV o.v))) (hf : findP G o.id = none) : mayG c o G = 60 := by
  unfold mayG; rw [if_neg (by omega), if_neg (by omega), if_neg (by omega), if_neg (by omega), if_pos h, if_neg hn, hf]
theorem mayG_5s {c : PCat} {o : POp} {G : PGraph} {ps : List PProp} (h : o.kind = 5) (hn : ¬ (¬ NameOk o.name ∨ (¬ GoodV o.v ∧ ¬ BlankV o.v))) (hf : findP G o.id = some ps) : mayG c o G = if 8 < (setP ps o.name o.v).length then 3 else 0 := by
  unfold mayG; rw [if_neg (by omega), if_neg (by omega), if_neg (by omega), if_neg (by omega), if_pos h, if_neg hn, hf]
theorem mayG_0 {c : PCat} {o : POp} {G : PGraph} (h1 : o.kind ≠ 1) (h2 : o.kind ≠ 2) (h3 : o.kind ≠ 3) (h4 : o.kind ≠ 4) (h5 : o.kind ≠ 5) : mayG c o G = 150 := by
  unfold mayG; rw [if_neg h1, if_neg h2, if_neg h3, if_neg h4, if_neg h5]
theorem atG_pos (G : PGraph) (id : Int) : decide (0 < ((atG G id).length : Int)) = G.edges.any fun x => atE x id := by
  unfold atG
  rw [List.length_map]
  cases h : G.edges.any fun x => atE x id
  · rw [List.filter_eq_nil_iff.2 (fun x hx => by have := List.any_eq_false.1 h x hx; exact this)]; rfl
  · obtain ⟨x, hx, hp⟩ := List.any_eq_true.1 h
    have : x ∈ G.edges.filter fun x => atE x id := List.mem_filter.2 ⟨hx, hp⟩
    exact decide_eq_true (by have := List.length_pos_of_mem this; omega)
set_option maxRecDepth 100000 in
set_option maxHeartbeats 4000000 in
theorem rmay1 (S SC : Nat → Prop) (B : Nat) (G : PGraph) (nv ev rv iv : Value) (c : PCat) (o : POp) (w : World) (h : GraphRd 42 S w B G) (hG : GInv G) (hc : CatR SC w nv ev rv iv c) (hk : o.kind = 1) :
    Calls Tryz.prog 54 #[.pointer (some ⟨B, 0, none⟩), c.arg nv ev rv iv, o.args] w fun e w' => e = .returned (.int .i64 (mayG c o G)) ∧ Grow w w' := by
  have HGR := Lib.hid h; have HI := Lib.hid hG; have HC := Lib.hid hc
  have HM := Lib.hid (mayG_1 (c := c) (G := G) hk)
  obtain ⟨kind, id, typ, from_, to_, name, v, cascade⟩ := o
  subst hk
  obtain ⟨na, nc, ea, ec, ra, rc, ia, ic, rfl, rfl, rfl, rfl⟩ := hc.slices
  have HW := Lib.hid (show ∀ o1 o2, Grow w ((w.alloc o1).alloc o2) from fun o1 o2 => ((Grow.rfl' w).allocd o1).allocd o2)
  have HBX := Lib.hid (boxes w (.slice na c.nodes.length nc) (.slice ea c.edges.length ec) (.slice ra c.rules.length rc) (.slice ia c.indexes.length ic) c ⟨1, id, typ, from_, to_, name, v, cascade⟩)
  obtain ⟨gna, gnc, gea, gec, hB, g0, g1, g2, -, -⟩ := h.read
  have hB2 : B < w.heap.size + 1 + 1 := by omega
  have HLN := Lib.hid hG.items
  have hwr : IntKind.i64.wrap ((G.nodes.length : Int) + (G.edges.length : Int)) = (G.nodes.length : Int) + (G.edges.length : Int) := by have := hG.items; rw [IntKind.wrap_i64]; omega
  clear h hc hG
  go_enter Tryz.func54, Tryz.ntmps54
  obtain ⟨f, hfd⟩ : ∃ f, f = fullG G := ⟨_, rfl⟩
  have HF := Lib.hid hfd
  by_cases hs : 1024 ≤ G.nodes.length + G.edges.length
  case' pos =>
    have hd : decide (1024 ≤ (G.nodes.length : Int) + (G.edges.length : Int)) = true := decide_eq_true (by omega)
    obtain rfl : f = true := by rw [hfd]; unfold fullG; rw [decide_eq_true hs]; rfl
  case' neg =>
    have hd : decide (1024 ≤ (G.nodes.length : Int) + (G.edges.length : Int)) = false := decide_eq_false (by omega)
    have hf2 : decide (4611686018427387903 < G.next) = f := by rw [hfd]; unfold fullG; rw [decide_eq_false hs]; rfl
  all_goals
    clear hs hfd
    go_wp2_with fail
    refine wp_region_grow (by kernel_rfl) (by kernel_rfl) ?_
    repeat (go_big_quiet_step (fail))
    refine wpQuiet_nil ?_
    intro w2 hg2
    have HG2 := Lib.hid ((HW.out _ _).step hg2); have HA2 := Lib.hid hg2
    obtain ⟨hl1, k0, k1, k2, k3, k4⟩ := (HBX.out.1.grow hg2).at
    obtain ⟨hl2, c0, c1, c2, c3, c4, c5, c6, c7, c8, c9⟩ := (HBX.out.2.grow hg2).at
    clear hg2 g0 g1 g2 hB hB2 hd
    try clear hf2
    go_wp2_with fail
    refine (refHas SC _ _ _ _ c 1 typ _ (HC.out.grow (HG2.out))).mono ?_
    rintro e w3 ⟨rfl, hg⟩
    have HG3 := Lib.hid (HG2.out.step hg); clear hg
    cases ht : memS typ (c.typesOf 1)
    · have HX := Lib.hid (show mayG c ⟨1, id, typ, from_, to_, name, v, cascade⟩ G = 140 by rw [HM.out, if_pos (show memS typ c.nodes = false from ht)]); clear ht
      go_wp2
      go_ret
      exact ⟨by rw [HX.out]; rfl, HG3.out⟩
    · have HFX := Lib.hid (show ∀ b, fullG G = b → mayG c ⟨1, id, typ, from_, to_, name, v, cascade⟩ G = if b = true then 50 else 0 from fun b hb => by rw [HM.out, if_neg (by rw [show memS typ c.nodes = true from ht]; simp), hb]); clear ht
      first
      | (cases f
         · have HX := Lib.hid (HFX.out false HF.out.symm)
           go_wp2
           go_ret
           exact ⟨by rw [HX.out]; rfl, HG3.out⟩
         · have HX := Lib.hid (HFX.out true HF.out.symm)
           go_wp2
           go_ret
           exact ⟨by rw [HX.out]; rfl, HG3.out⟩)
      | (have HX := Lib.hid (HFX.out true HF.out.symm)
         go_wp2
         go_ret
         exact ⟨by rw [HX.out]; rfl, HG3.out⟩)

set_option maxRecDepth 100000 in
set_option maxHeartbeats 4000000 in
theorem rmay2 (S SC : Nat → Prop) (B : Nat) (G : PGraph) (nv ev rv iv : Value) (c : PCat) (o : POp) (w : World) (h : GraphRd 42 S w B G) (hG : GInv G) (hc : CatR SC w nv ev rv iv c) (hk : o.kind = 2) :
    Calls Tryz.prog 54 #[.pointer (some ⟨B, 0, none⟩), c.arg nv ev rv iv, o.args] w fun e w' => e = .returned (.int .i64 (mayG c o G)) ∧ Grow w w' := by
  have HGR := Lib.hid h; have HI := Lib.hid hG; have HC := Lib.hid hc
  have HM := Lib.hid (mayG_2 (c := c) (G := G) hk)
  obtain ⟨kind, id, typ, from_, to_, name, v, cascade⟩ := o
  subst hk
  obtain ⟨na, nc, ea, ec, ra, rc, ia, ic, rfl, rfl, rfl, rfl⟩ := hc.slices
  have HW := Lib.hid (show ∀ o1 o2, Grow w ((w.alloc o1).alloc o2) from fun o1 o2 => ((Grow.rfl' w).allocd o1).allocd o2)
  have HBX := Lib.hid (boxes w (.slice na c.nodes.length nc) (.slice ea c.edges.length ec) (.slice ra c.rules.length rc) (.slice ia c.indexes.length ic) c ⟨2, id, typ, from_, to_, name, v, cascade⟩)
  obtain ⟨gna, gnc, gea, gec, hB, g0, g1, g2, -, -⟩ := h.read
  have hB2 : B < w.heap.size + 1 + 1 := by omega
  have HLN := Lib.hid hG.items
  have hwr : IntKind.i64.wrap ((G.nodes.length : Int) + (G.edges.length : Int)) = (G.nodes.length : Int) + (G.edges.length : Int) := by have := hG.items; rw [IntKind.wrap_i64]; omega
  clear h hc hG
  go_enter Tryz.func54, Tryz.ntmps54
  obtain ⟨f, hfd⟩ : ∃ f, f = fullG G := ⟨_, rfl⟩
  have HF := Lib.hid hfd
  by_cases hs : 1024 ≤ G.nodes.length + G.edges.length
  case' pos =>
    have hd : decide (1024 ≤ (G.nodes.length : Int) + (G.edges.length : Int)) = true := decide_eq_true (by omega)
    obtain rfl : f = true := by rw [hfd]; unfold fullG; rw [decide_eq_true hs]; rfl
  case' neg =>
    have hd : decide (1024 ≤ (G.nodes.length : Int) + (G.edges.length : Int)) = false := decide_eq_false (by omega)
    have hf2 : decide (4611686018427387903 < G.next) = f := by rw [hfd]; unfold fullG; rw [decide_eq_false hs]; rfl
  all_goals
    clear hs hfd
    go_wp2_with fail
    refine wp_region_grow (by kernel_rfl) (by kernel_rfl) ?_
    repeat (go_big_quiet_step (fail))
    refine wpQuiet_nil ?_
    intro w2 hg2
    have HG2 := Lib.hid ((HW.out _ _).step hg2); have HA2 := Lib.hid hg2
    obtain ⟨hl1, k0, k1, k2, k3, k4⟩ := (HBX.out.1.grow hg2).at
    obtain ⟨hl2, c0, c1, c2, c3, c4, c5, c6, c7, c8, c9⟩ := (HBX.out.2.grow hg2).at
    clear hg2 g0 g1 g2 hB hB2 hd
    try clear hf2
    go_wp2_with fail
    refine (refNode S B G id _ (HGR.out.grow HG2.out)).mono ?_
    rintro e w3 ⟨rfl, rfl⟩
    cases hN : hasN G id
    · have HX := Lib.hid (show mayG c ⟨2, id, typ, from_, to_, name, v, cascade⟩ G = 60 by rw [HM.out, if_pos hN])
      rw [idxZ_none (f := fun x : PNode => x.id) hN]
      clear hN
      go_wp2
      go_ret
      exact ⟨by rw [HX.out]; rfl, HG2.out⟩
    · have HNN := Lib.hid hN
      obtain ⟨k, x, hz, hkl, hx, hid⟩ := idxZ_some (f := fun x : PNode => x.id) hN
      rw [hz]
      have hk0 : decide ((k : Int) < 0) = false := decide_eq_false (by omega)
      clear hN hz hkl hx hid
      go_wp2_with fail
      refine (refAt S B G id _ (HGR.out.grow HG2.out) (by have := HLN.out; omega)).mono ?_
      rintro e w4 ⟨v4, ob4, rfl, ho4, -, hg4⟩
      have HG4 := Lib.hid (HG2.out.step hg4)
      obtain ⟨o4, co4, rfl, -, -⟩ := ho4.isSlice
      obtain ⟨hl2', d0, d1, d2, d3, d4, d5, d6, d7, d8, d9⟩ := ((HBX.out.2.grow HA2.out).grow hg4).at
      have hpos := atG_pos G id
      have hposN : decide (0 < (atG G id).length) = G.edges.any fun x => atE x id := by rw [← hpos]; simp
      clear ho4 hg4 c0 c1 c2 c3 c4 c5 c6 c7 c8 c9
      cases ha : G.edges.any fun x => atE x id
      · rw [ha] at hpos hposN
        have HX := Lib.hid (show mayG c ⟨2, id, typ, from_, to_, name, v, cascade⟩ G = 0 by rw [HM.out, if_neg (by rw [HNN.out]; simp), if_neg (by rintro ⟨-, h⟩; rw [show (G.edges.any fun x => atE x id) = false from ha] at h; cases h)]); clear ha
        go_wp2
        go_ret
        exact ⟨by rw [HX.out]; rfl, HG4.out⟩
      · rw [ha] at hpos hposN
        cases hcs : cascade
        · subst hcs
          have HX := Lib.hid (show mayG c ⟨2, id, typ, from_, to_, name, v, false⟩ G = 160 by rw [HM.out, if_neg (by rw [HNN.out]; simp), if_pos ⟨rfl, ha⟩]); clear ha
          go_wp2
          go_ret
          exact ⟨by rw [HX.out]; rfl, HG4.out⟩
        · subst hcs
          have HX := Lib.hid (show mayG c ⟨2, id, typ, from_, to_, name, v, true⟩ G = 0 by rw [HM.out, if_neg (by rw [HNN.out]; simp), if_neg (by simp)]); clear ha
          go_wp2
          go_ret
          exact ⟨by rw [HX.out]; rfl, HG4.out⟩

set_option maxRecDepth 100000 in
set_option maxHeartbeats 4000000 in
theorem rmay3 (S SC : Nat → Prop) (B : Nat) (G : PGraph) (nv ev rv iv : Value) (c : PCat) (o : POp) (w : World) (h : GraphRd 42 S w B G) (hG : GInv G) (hc : CatR SC w nv ev rv iv c) (hk : o.kind = 3) :
    Calls Tryz.prog 54 #[.pointer (some ⟨B, 0, none⟩), c.arg nv ev rv iv, o.args] w fun e w' => e = .returned (.int .i64 (mayG c o G)) ∧ Grow w w' := by
  have HGR := Lib.hid h; have HI := Lib.hid hG; have HC := Lib.hid hc
  have HM := Lib.hid (mayG_3 (c := c) (G := G) hk)
  obtain ⟨kind, id, typ, from_, to_, name, v, cascade⟩ := o
  subst hk
  obtain ⟨na, nc, ea, ec, ra, rc, ia, ic, rfl, rfl, rfl, rfl⟩ := hc.slices
  have HW := Lib.hid (show ∀ o1 o2, Grow w ((w.alloc o1).alloc o2) from fun o1 o2 => ((Grow.rfl' w).allocd o1).allocd o2)
  have HBX := Lib.hid (boxes w (.slice na c.nodes.length nc) (.slice ea c.edges.length ec) (.slice ra c.rules.length rc) (.slice ia c.indexes.length ic) c ⟨3, id, typ, from_, to_, name, v, cascade⟩)
  obtain ⟨gna, gnc, gea, gec, hB, g0, g1, g2, -, -⟩ := h.read
  have hB2 : B < w.heap.size + 1 + 1 := by omega
  have HLN := Lib.hid hG.items
  have hwr : IntKind.i64.wrap ((G.nodes.length : Int) + (G.edges.length : Int)) = (G.nodes.length : Int) + (G.edges.length : Int) := by have := hG.items; rw [IntKind.wrap_i64]; omega
  clear h hc hG
  go_enter Tryz.func54, Tryz.ntmps54
  obtain ⟨f, hfd⟩ : ∃ f, f = fullG G := ⟨_, rfl⟩
  have HF := Lib.hid hfd
  by_cases hs : 1024 ≤ G.nodes.length + G.edges.length
  case' pos =>
    have hd : decide (1024 ≤ (G.nodes.length : Int) + (G.edges.length : Int)) = true := decide_eq_true (by omega)
    obtain rfl : f = true := by rw [hfd]; unfold fullG; rw [decide_eq_true hs]; rfl
  case' neg =>
    have hd : decide (1024 ≤ (G.nodes.length : Int) + (G.edges.length : Int)) = false := decide_eq_false (by omega)
    have hf2 : decide (4611686018427387903 < G.next) = f := by rw [hfd]; unfold fullG; rw [decide_eq_false hs]; rfl
  all_goals
    clear hs hfd
    go_wp2_with fail
    refine wp_region_grow (by kernel_rfl) (by kernel_rfl) ?_
    repeat (go_big_quiet_step (fail))
    refine wpQuiet_nil ?_
    intro w2 hg2
    have HG2 := Lib.hid ((HW.out _ _).step hg2); have HA2 := Lib.hid hg2
    obtain ⟨hl1, k0, k1, k2, k3, k4⟩ := (HBX.out.1.grow hg2).at
    obtain ⟨hl2, c0, c1, c2, c3, c4, c5, c6, c7, c8, c9⟩ := (HBX.out.2.grow hg2).at
    clear hg2 g0 g1 g2 hB hB2 hd
    try clear hf2
    go_wp2_with fail
    refine (refHas SC _ _ _ _ c 2 typ _ (HC.out.grow (HG2.out))).mono ?_
    rintro e w3 ⟨rfl, hg⟩
    have HG3 := Lib.hid (HG2.out.step hg); have HA3 := Lib.hid hg
    obtain ⟨hl2', d0, d1, d2, d3, d4, d5, d6, d7, d8, d9⟩ := ((HBX.out.2.grow HA2.out).grow hg).at
    clear hg c0 c1 c2 c3 c4 c5 c6 c7 c8 c9
    cases ht : memS typ (c.typesOf 2)
    · have HX := Lib.hid (show mayG c ⟨3, id, typ, from_, to_, name, v, cascade⟩ G = 140 by rw [HM.out, if_pos (show memS typ c.edges = false from ht)]); clear ht
      go_wp2
      go_ret
      exact ⟨by rw [HX.out]; rfl, HG3.out⟩
    · have HT := Lib.hid (show memS typ c.edges = true from ht); clear ht
      go_wp2_with fail
      refine (refNode S B G from_ _ (HGR.out.grow HG3.out)).mono ?_
      rintro e w4 ⟨rfl, rfl⟩
      cases hN : hasN G from_
      · have HX := Lib.hid (show mayG c ⟨3, id, typ, from_, to_, name, v, cascade⟩ G = 141 by rw [HM.out, if_neg (by rw [HT.out]; simp), if_pos (.inl hN)])
        rw [idxZ_none (f := fun x : PNode => x.id) hN]
        clear hN
        go_wp2
        go_ret
        exact ⟨by rw [HX.out]; rfl, HG3.out⟩
      · have HNN := Lib.hid hN
        obtain ⟨k, x, hz, hkl, hx, hid⟩ := idxZ_some (f := fun x : PNode => x.id) hN
        rw [hz]
        have hk0 : decide ((k : Int) < 0) = false := decide_eq_false (by omega)
        clear hN hz hkl hx hid
        go_wp2_with fail
        refine (refNode S B G to_ _ (HGR.out.grow HG3.out)).mono ?_
        rintro e w4 ⟨rfl, rfl⟩
        cases hN : hasN G to_
        · have HX := Lib.hid (show mayG c ⟨3, id, typ, from_, to_, name, v, cascade⟩ G = 141 by rw [HM.out, if_neg (by rw [HT.out]; simp), if_pos (.inr hN)])
          rw [idxZ_none (f := fun x : PNode => x.id) hN]
          clear hN
          go_wp2
          go_ret
          exact ⟨by rw [HX.out]; rfl, HG3.out⟩
        · have HFX := Lib.hid (show ∀ b, fullG G = b → mayG c ⟨3, id, typ, from_, to_, name, v, cascade⟩ G = if b = true then 50 else 0 from fun b hb => by rw [HM.out, if_neg (by rw [HT.out]; simp), if_neg (by rw [HNN.out, hN]; simp), hb])
          obtain ⟨k', x', hz, hkl, hx, hid⟩ := idxZ_some (f := fun x : PNode => x.id) hN
          rw [hz]
          have hk0' : decide ((k' : Int) < 0) = false := decide_eq_false (by omega)
          clear hN hz hkl hx hid
          first
          | (cases f
             · have HX := Lib.hid (HFX.out false HF.out.symm)
               go_wp2
               go_ret
               exact ⟨by rw [HX.out]; rfl, HG3.out⟩
             · have HX := Lib.hid (HFX.out true HF.out.symm)
               go_wp2
               go_ret
               exact ⟨by rw [HX.out]; rfl, HG3.out⟩)
          | (have HX := Lib.hid (HFX.out true HF.out.symm)
             go_wp2
             go_ret
             exact ⟨by rw [HX.out]; rfl, HG3.out⟩)

set_option maxRecDepth 100000 in
set_option maxHeartbeats 4000000 in
theorem rmay4 (S SC : Nat → Prop) (B : Nat) (G : PGraph) (nv ev rv iv : Value) (c : PCat) (o : POp) (w : World) (h : GraphRd 42 S w B G) (hG : GInv G) (hc : CatR SC w nv ev rv iv c) (hk : o.kind = 4) :
    Calls Tryz.prog 54 #[.pointer (some ⟨B, 0, none⟩), c.arg nv ev rv iv, o.args] w fun e w' => e = .returned (.int .i64 (mayG c o G)) ∧ Grow w w' := by
  have HGR := Lib.hid h; have HI := Lib.hid hG; have HC := Lib.hid hc
  have HM := Lib.hid (mayG_4 (c := c) (G := G) hk)
  obtain ⟨kind, id, typ, from_, to_, name, v, cascade⟩ := o
  subst hk
  obtain ⟨na, nc, ea, ec, ra, rc, ia, ic, rfl, rfl, rfl, rfl⟩ := hc.slices
  have HW := Lib.hid (show ∀ o1 o2, Grow w ((w.alloc o1).alloc o2) from fun o1 o2 => ((Grow.rfl' w).allocd o1).allocd o2)
  have HBX := Lib.hid (boxes w (.slice na c.nodes.length nc) (.slice ea c.edges.length ec) (.slice ra c.rules.length rc) (.slice ia c.indexes.length ic) c ⟨4, id, typ, from_, to_, name, v, cascade⟩)
  obtain ⟨gna, gnc, gea, gec, hB, g0, g1, g2, -, -⟩ := h.read
  have hB2 : B < w.heap.size + 1 + 1 := by omega
  have HLN := Lib.hid hG.items
  have hwr : IntKind.i64.wrap ((G.nodes.length : Int) + (G.edges.length : Int)) = (G.nodes.length : Int) + (G.edges.length : Int) := by have := hG.items; rw [IntKind.wrap_i64]; omega
  clear h hc hG
  go_enter Tryz.func54, Tryz.ntmps54
  obtain ⟨f, hfd⟩ : ∃ f, f = fullG G := ⟨_, rfl⟩
  have HF := Lib.hid hfd
  by_cases hs : 1024 ≤ G.nodes.length + G.edges.length
  case' pos =>
    have hd : decide (1024 ≤ (G.nodes.length : Int) + (G.edges.length : Int)) = true := decide_eq_true (by omega)
    obtain rfl : f = true := by rw [hfd]; unfold fullG; rw [decide_eq_true hs]; rfl
  case' neg =>
    have hd : decide (1024 ≤ (G.nodes.length : Int) + (G.edges.length : Int)) = false := decide_eq_false (by omega)
    have hf2 : decide (4611686018427387903 < G.next) = f := by rw [hfd]; unfold fullG; rw [decide_eq_false hs]; rfl
  all_goals
    clear hs hfd
    go_wp2_with fail
    refine wp_region_grow (by kernel_rfl) (by kernel_rfl) ?_
    repeat (go_big_quiet_step (fail))
    refine wpQuiet_nil ?_
    intro w2 hg2
    have HG2 := Lib.hid ((HW.out _ _).step hg2); have HA2 := Lib.hid hg2
    obtain ⟨hl1, k0, k1, k2, k3, k4⟩ := (HBX.out.1.grow hg2).at
    obtain ⟨hl2, c0, c1, c2, c3, c4, c5, c6, c7, c8, c9⟩ := (HBX.out.2.grow hg2).at
    clear hg2 g0 g1 g2 hB hB2 hd
    try clear hf2
    go_wp2_with fail
    refine (refEdge S B G id _ (HGR.out.grow HG2.out)).mono ?_
    rintro e w3 ⟨rfl, rfl⟩
    cases hN : hasE G id
    · have HX := Lib.hid (show mayG c ⟨4, id, typ, from_, to_, name, v, cascade⟩ G = 60 by rw [HM.out, if_pos hN])
      rw [idxZ_none (f := fun x : PEdge => x.id) hN]
      clear hN
      go_wp2
      go_ret
      exact ⟨by rw [HX.out]; rfl, HG2.out⟩
    · have HX := Lib.hid (show mayG c ⟨4, id, typ, from_, to_, name, v, cascade⟩ G = 0 by rw [HM.out, if_neg (by rw [show hasE G id = true from hN]; simp)])
      obtain ⟨k, x, hz, hkl, hx, hid⟩ := idxZ_some (f := fun x : PEdge => x.id) hN
      rw [hz]
      have hk0 : decide ((k : Int) < 0) = false := decide_eq_false (by omega)
      clear hN hz hkl hx hid
      go_wp2
      go_ret
      exact ⟨by rw [HX.out]; rfl, HG2.out⟩

theorem findP_len {G : PGraph} {id : Int} {ps : List PProp} (hG : GInv G) (h : findP G id = some ps) : ps.length ≤ 8 := by
  unfold findP at h
  cases hn : G.nodes.find? fun x => decide (x.id = id) with
  | some x => rw [hn] at h; simp only [Option.some.injEq] at h; subst h; exact (hG.nodesB x (List.mem_of_find?_eq_some hn)).2.2
  | none =>
    rw [hn] at h
    cases he : G.edges.find? fun x => decide (x.id = id) with
    | some x => rw [he] at h; simp only [Option.some.injEq] at h; subst h; exact (hG.edgesB x (List.mem_of_find?_eq_some he)).2.2
    | none => rw [he] at h; simp at h
set_option maxRecDepth 100000 in
set_option maxHeartbeats 4000000 in
theorem rmay5 (S SC : Nat → Prop) (B : Nat) (G : PGraph) (nv ev rv iv : Value) (c : PCat) (o : POp) (w : World) (h : GraphRd 42 S w B G) (hG : GInv G) (hc : CatR SC w nv ev rv iv c) (hk : o.kind = 5) :
    Calls Tryz.prog 54 #[.pointer (some ⟨B, 0, none⟩), c.arg nv ev rv iv, o.args] w fun e w' => e = .returned (.int .i64 (mayG c o G)) ∧ Grow w w' := by
  have HGR := Lib.hid h; have HI := Lib.hid hG; have HC := Lib.hid hc
  obtain ⟨kind, id, typ, from_, to_, name, v, cascade⟩ := o
  subst hk
  obtain ⟨na, nc, ea, ec, ra, rc, ia, ic, rfl, rfl, rfl, rfl⟩ := hc.slices
  have HW := Lib.hid (show ∀ o1 o2, Grow w ((w.alloc o1).alloc o2) from fun o1 o2 => ((Grow.rfl' w).allocd o1).allocd o2)
  have HBX := Lib.hid (boxes w (.slice na c.nodes.length nc) (.slice ea c.edges.length ec) (.slice ra c.rules.length rc) (.slice ia c.indexes.length ic) c ⟨5, id, typ, from_, to_, name, v, cascade⟩)
  obtain ⟨gna, gnc, gea, gec, hB, g0, g1, g2, -, -⟩ := h.read
  have hB2 : B < w.heap.size + 1 + 1 := by omega
  have HLN := Lib.hid hG.items
  have hwr : IntKind.i64.wrap ((G.nodes.length : Int) + (G.edges.length : Int)) = (G.nodes.length : Int) + (G.edges.length : Int) := by have := hG.items; rw [IntKind.wrap_i64]; omega
  clear h hc hG
  go_enter Tryz.func54, Tryz.ntmps54
  obtain ⟨f, hfd⟩ : ∃ f, f = fullG G := ⟨_, rfl⟩
  have HF := Lib.hid hfd
  by_cases hs : 1024 ≤ G.nodes.length + G.edges.length
  case' pos =>
    have hd : decide (1024 ≤ (G.nodes.length : Int) + (G.edges.length : Int)) = true := decide_eq_true (by omega)
    obtain rfl : f = true := by rw [hfd]; unfold fullG; rw [decide_eq_true hs]; rfl
  case' neg =>
    have hd : decide (1024 ≤ (G.nodes.length : Int) + (G.edges.length : Int)) = false := decide_eq_false (by omega)
    have hf2 : decide (4611686018427387903 < G.next) = f := by rw [hfd]; unfold fullG; rw [decide_eq_false hs]; rfl
  all_goals
    clear hs hfd
    go_wp2_with fail
    refine wp_region_grow (by kernel_rfl) (by kernel_rfl) ?_
    repeat (go_big_quiet_step (fail))
    refine wpQuiet_nil ?_
    intro w2 hg2
    have HG2 := Lib.hid ((HW.out _ _).step hg2); have HA2 := Lib.hid hg2
    obtain ⟨hl1, k0, k1, k2, k3, k4⟩ := (HBX.out.1.grow hg2).at
    obtain ⟨hl2, c0, c1, c2, c3, c4, c5, c6, c7, c8, c9⟩ := (HBX.out.2.grow hg2).at
    clear hg2 g0 g1 g2 hB hB2 hd
    try clear hf2
    go_wp2_with fail
    refine (refName name _).mono ?_
    rintro e w3 ⟨rfl, rfl⟩
    cases hN : decide (NameOk name)
    · have HX := Lib.hid (show mayG c ⟨5, id, typ, from_, to_, name, v, cascade⟩ G = 142 from mayG_5b rfl (.inl (of_decide_eq_false hN))); clear hN
      go_wp2
      go_ret
      exact ⟨by rw [HX.out]; rfl, HG2.out⟩
    · have HNN := Lib.hid (of_decide_eq_true hN); clear hN
      go_wp2_with fail
      refine (refGoodV v _).mono ?_
      rintro e w4 ⟨rfl, hg⟩
      have HG4 := Lib.hid (HG2.out.step hg); have HA4 := Lib.hid (HA2.out.step hg)
      obtain ⟨hl2', d0, d1, d2, d3, d4, d5, d6, d7, d8, d9⟩ := ((HBX.out.2.grow HA2.out).grow hg).at
      clear hg c0 c1 c2 c3 c4 c5 c6 c7 c8 c9
      cases hgd : decide (GoodV v)
      · have HGD := Lib.hid (of_decide_eq_false hgd); clear hgd
        go_wp2_with fail
        refine (refBlank v _).mono ?_
        rintro e w5 ⟨rfl, hg⟩
        have HG5 := Lib.hid (HG4.out.step hg)
        obtain ⟨hl3', e0, e1, e2, e3, e4, e5, e6, e7, e8, e9⟩ := ((HBX.out.2.grow HA4.out).grow hg).at
        clear hg d0 d1 d2 d3 d4 d5 d6 d7 d8 d9
        cases hbl : decide (BlankV v)
        · have HX := Lib.hid (show mayG c ⟨5, id, typ, from_, to_, name, v, cascade⟩ G = 142 from mayG_5b rfl (.inr ⟨HGD.out, of_decide_eq_false hbl⟩)); clear hbl
          go_wp2
          go_ret
          exact ⟨by rw [HX.out]; rfl, HG5.out⟩
        · have HBL := Lib.hid (of_decide_eq_true hbl); clear hbl
          have HIF := Lib.hid (show ¬ (¬ NameOk name ∨ (¬ GoodV v ∧ ¬ BlankV v)) from fun h => h.elim (fun h => h HNN.out) (fun h => h.2 HBL.out))
          go_wp2_with fail
          refine (refProps S B G id _ (HGR.out.grow HG5.out) HI.out.nodes HI.out.edges).mono ?_
          rintro e w6 ⟨hp, rfl⟩
          rcases hp with ⟨hf, rfl⟩ | ⟨ps, pv, hf, rfl, hp⟩
          · have HX := Lib.hid (show mayG c ⟨5, id, typ, from_, to_, name, v, cascade⟩ G = 60 from mayG_5n rfl HIF.out hf); clear hf
            go_wp2
            go_ret
            exact ⟨by rw [HX.out]; rfl, HG5.out⟩
          · have HP := Lib.hid hp
            obtain ⟨pa, pc, rfl⟩ := hp.isSlice
            have HL8 := Lib.hid (findP_len HI.out hf)
            have HX0 := Lib.hid (show mayG c ⟨5, id, typ, from_, to_, name, v, cascade⟩ G = if 8 < (setP ps name v).length then 3 else 0 from mayG_5s rfl HIF.out hf)
            clear hf hp
            go_wp2_with fail
            refine (refSet S _ ps name v _ HP.out (by have := HL8.out; omega)).mono ?_
            rintro e w7 ⟨v7, rfl, h7, hg7⟩
            have HG7 := Lib.hid (HG5.out.step hg7)
            obtain ⟨a7, k7, rfl⟩ := h7.isSlice
            clear h7 hg7
            by_cases h8 : 8 < (setP ps name v).length
            · have hd8 : decide ((8 : Int) < ((setP ps name v).length : Int)) = true := decide_eq_true (by omega)
              have HX := Lib.hid (show mayG c ⟨5, id, typ, from_, to_, name, v, cascade⟩ G = 3 by rw [HX0.out, if_pos h8]); clear h8
              go_wp2
              go_ret
              exact ⟨by rw [HX.out]; rfl, HG7.out⟩
            · have hd8 : decide ((8 : Int) < ((setP ps name v).length : Int)) = false := decide_eq_false (by omega)
              have HX := Lib.hid (show mayG c ⟨5, id, typ, from_, to_, name, v, cascade⟩ G = 0 by rw [HX0.out, if_neg h8]); clear h8
              go_wp2
              go_ret
              exact ⟨by rw [HX.out]; rfl, HG7.out⟩
      · have HGD := Lib.hid (of_decide_eq_true hgd); clear hgd
        have HIF := Lib.hid (show ¬ (¬ NameOk name ∨ (¬ GoodV v ∧ ¬ BlankV v)) from fun h => h.elim (fun h => h HNN.out) (fun h => h.1 HGD.out))
        go_wp2_with fail
        refine (refProps S B G id _ (HGR.out.grow HG4.out) HI.out.nodes HI.out.edges).mono ?_
        rintro e w6 ⟨hp, rfl⟩
        rcases hp with ⟨hf, rfl⟩ | ⟨ps, pv, hf, rfl, hp⟩
        · have HX := Lib.hid (show mayG c ⟨5, id, typ, from_, to_, name, v, cascade⟩ G = 60 from mayG_5n rfl HIF.out hf); clear hf
          go_wp2
          go_ret
          exact ⟨by rw [HX.out]; rfl, HG4.out⟩
        · have HP := Lib.hid hp
          obtain ⟨pa, pc, rfl⟩ := hp.isSlice
          have HL8 := Lib.hid (findP_len HI.out hf)
          have HX0 := Lib.hid (show mayG c ⟨5, id, typ, from_, to_, name, v, cascade⟩ G = if 8 < (setP ps name v).length then 3 else 0 from mayG_5s rfl HIF.out hf)
          clear hf hp
          go_wp2_with fail
          refine (refSet S _ ps name v _ HP.out (by have := HL8.out; omega)).mono ?_
          rintro e w7 ⟨v7, rfl, h7, hg7⟩
          have HG7 := Lib.hid (HG4.out.step hg7)
          obtain ⟨a7, k7, rfl⟩ := h7.isSlice
          clear h7 hg7
          by_cases h8 : 8 < (setP ps name v).length
          · have hd8 : decide ((8 : Int) < ((setP ps name v).length : Int)) = true := decide_eq_true (by omega)
            have HX := Lib.hid (show mayG c ⟨5, id, typ, from_, to_, name, v, cascade⟩ G = 3 by rw [HX0.out, if_pos h8]); clear h8
            go_wp2
            go_ret
            exact ⟨by rw [HX.out]; rfl, HG7.out⟩
          · have hd8 : decide ((8 : Int) < ((setP ps name v).length : Int)) = false := decide_eq_false (by omega)
            have HX := Lib.hid (show mayG c ⟨5, id, typ, from_, to_, name, v, cascade⟩ G = 0 by rw [HX0.out, if_neg h8]); clear h8
            go_wp2
            go_ret
            exact ⟨by rw [HX.out]; rfl, HG7.out⟩

set_option maxRecDepth 100000 in
set_option maxHeartbeats 4000000 in
theorem rmay0 (S SC : Nat → Prop) (B : Nat) (G : PGraph) (nv ev rv iv : Value) (c : PCat) (o : POp) (w : World) (h : GraphRd 42 S w B G) (hG : GInv G) (hc : CatR SC w nv ev rv iv c) (h1 : o.kind ≠ 1) (h2 : o.kind ≠ 2) (h3 : o.kind ≠ 3) (h4 : o.kind ≠ 4) (h5 : o.kind ≠ 5) :
    Calls Tryz.prog 54 #[.pointer (some ⟨B, 0, none⟩), c.arg nv ev rv iv, o.args] w fun e w' => e = .returned (.int .i64 (mayG c o G)) ∧ Grow w w' := by
  have HGR := Lib.hid h; have HI := Lib.hid hG; have HC := Lib.hid hc
  have HM := Lib.hid (mayG_0 (c := c) (G := G) h1 h2 h3 h4 h5)
  obtain ⟨kind, id, typ, from_, to_, name, v, cascade⟩ := o
  obtain ⟨na, nc, ea, ec, ra, rc, ia, ic, rfl, rfl, rfl, rfl⟩ := hc.slices
  have HW := Lib.hid (show ∀ o1 o2, Grow w ((w.alloc o1).alloc o2) from fun o1 o2 => ((Grow.rfl' w).allocd o1).allocd o2)
  have HBX := Lib.hid (boxes w (.slice na c.nodes.length nc) (.slice ea c.edges.length ec) (.slice ra c.rules.length rc) (.slice ia c.indexes.length ic) c ⟨kind, id, typ, from_, to_, name, v, cascade⟩)
  obtain ⟨gna, gnc, gea, gec, hB, g0, g1, g2, -, -⟩ := h.read
  have hB2 : B < w.heap.size + 1 + 1 := by omega
  have q1 : (kind == 1) = false := by simpa using h1
  have q2 : (kind == 2) = false := by simpa using h2
  have q3 : (kind == 3) = false := by simpa using h3
  have q4 : (kind == 4) = false := by simpa using h4
  have q5 : (kind == 5) = false := by simpa using h5
  have HLN := Lib.hid hG.items
  have hwr : IntKind.i64.wrap ((G.nodes.length : Int) + (G.edges.length : Int)) = (G.nodes.length : Int) + (G.edges.length : Int) := by have := hG.items; rw [IntKind.wrap_i64]; omega
  clear h hc hG h1 h2 h3 h4 h5
  go_enter Tryz.func54, Tryz.ntmps54
  obtain ⟨f, hfd⟩ : ∃ f, f = fullG G := ⟨_, rfl⟩
  have HF := Lib.hid hfd
  by_cases hs : 1024 ≤ G.nodes.length + G.edges.length
  case' pos =>
    have hd : decide (1024 ≤ (G.nodes.length : Int) + (G.edges.length : Int)) = true := decide_eq_true (by omega)
    obtain rfl : f = true := by rw [hfd]; unfold fullG; rw [decide_eq_true hs]; rfl
  case' neg =>
    have hd : decide (1024 ≤ (G.nodes.length : Int) + (G.edges.length : Int)) = false := decide_eq_false (by omega)
    have hf2 : decide (4611686018427387903 < G.next) = f := by rw [hfd]; unfold fullG; rw [decide_eq_false hs]; rfl
  all_goals
    clear hs hfd
    go_wp2_with fail
    refine wp_region_grow (by kernel_rfl) (by kernel_rfl) ?_
    repeat (go_big_quiet_step (fail))
    refine wpQuiet_nil ?_
    intro w2 hg2
    have HG2 := Lib.hid ((HW.out _ _).step hg2); have HA2 := Lib.hid hg2
    obtain ⟨hl1, k0, k1, k2, k3, k4⟩ := (HBX.out.1.grow hg2).at
    obtain ⟨hl2, c0, c1, c2, c3, c4, c5, c6, c7, c8, c9⟩ := (HBX.out.2.grow hg2).at
    clear hg2 g0 g1 g2 hB hB2 hd
    try clear hf2
    go_wp2
    go_ret
    exact ⟨by rw [HM.out]; rfl, HG2.out⟩

theorem refMay (S SC : Nat → Prop) (B : Nat) (G : PGraph) (nv ev rv iv : Value) (c : PCat) (o : POp) (w : World) (h : GraphRd 42 S w B G) (hG : GInv G) (hc : CatR SC w nv ev rv iv c) :
    Calls Tryz.prog 54 #[.pointer (some ⟨B, 0, none⟩), c.arg nv ev rv iv, o.args] w fun e w' => e = .returned (.int .i64 (mayG c o G)) ∧ Grow w w' := by
  by_cases h1 : o.kind = 1
  · exact rmay1 S SC B G nv ev rv iv c o w h hG hc h1
  by_cases h2 : o.kind = 2
  · exact rmay2 S SC B G nv ev rv iv c o w h hG hc h2
  by_cases h3 : o.kind = 3
  · exact rmay3 S SC B G nv ev rv iv c o w h hG hc h3
  by_cases h4 : o.kind = 4
  · exact rmay4 S SC B G nv ev rv iv c o w h hG hc h4
  by_cases h5 : o.kind = 5
  · exact rmay5 S SC B G nv ev rv iv c o w h hG hc h5
  exact rmay0 S SC B G nv ev rv iv c o w h hG hc h1 h2 h3 h4 h5
end Go.Hg
