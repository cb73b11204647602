/- val.Props, hedgerowref02.Props: whether properties are good; graph.good: whether nodes and edges are a graph's; A good graph stays good under each change; The graph of wakes, of layer 18; law18.Made as the laws behind it want it; small facts; What changes touch: lengths; the changes one behind the other; what is counted in a map; keep.Op, keep.Ops of what is alike; ref20.of: a change's spots are put into spots in order; law20.DirtySpots: true; A law's row: its argument of operations, opened. Conditions: those that each theorem names. -/
import Derived.WalkKit
import Derived.WalkSpells
import Derived.WalkLawsBesides
import Derived.Lib.Hide
import Derived.BigQuiet
import Derived.Deep.LoopGhost
import Derived.Test.YtanijffgogpmdaaGreatRows
import Derived.Lib.SliceRun
import Derived.WideMake
import Derived.Deep.RegionLaw
import Derived.Lib.Overlaps
import Derived.Deep.RegionHeld3
import Derived.Laws.ResultCell
import Derived.Laws.EntriesVeiled
import Derived.Maps.OwnOps
import Derived.Maps.OwnSet
import Derived.Carry
import Derived.Lib.SlKeysI
import Derived.Maps.RangeWalk
import Derived.Lib.SlMapFilter
import Derived.Deep.DeepCutAuto
import Derived.Shelf.SlIterI.Nil
import Derived.Shelf.SortM.Plain
import Derived.Shelf.SortM.SortNone
import Derived.Shelf.SlMaps.DeleteFunc
import Derived.Shelf.SlSortCmp.WholeK
import Derived.Shelf.SlIterI.Collect
import Derived.RangeFuncBox
import Derived.RangeFuncLeaves
import Derived.RangeFuncWrites
import Derived.Maps.AppendAt
import Derived.Deep.CutBlock
import Derived.BigRegion
import Derived.RowKit
import Derived.ReadAgain
import Derived.ChangeOld
import Derived.Deep.Slices
import Derived.Test.YtanijffgogpmdaaGreatDirN
namespace Go.Hg
open Go.RowKit Go.Proofs

def PropOkAt (l : List PProp) (i : Nat) : Prop := ∀ p, l[i]? = some p → NameOk p.name ∧ GoodV p.v ∧ (0 < i → ∀ q, l[i - 1]? = some q → ltS q.name p.name = true)
def PropsOk (l : List PProp) : Prop := l.length ≤ 8 ∧ ∀ i, i < l.length → PropOkAt l i
open Classical in
noncomputable def propsB (l : List PProp) : Bool := decide (PropsOk l)
theorem propsB_true {l : List PProp} (h : PropsOk l) : propsB l = true := by unfold propsB; simp [h]
theorem propsB_iff {l : List PProp} : propsB l = true ↔ PropsOk l := by unfold propsB; simp

end Go.Hg

namespace Go.Hg
open Go.RowKit Go.Proofs

noncomputable def goodNs (next : Int) : Int → List PNode → Bool
  | _, [] => true
  | last, x :: t => !decide (x.id ≤ last) && (!decide (next ≤ x.id) && (decide (NameOk x.typ) && (propsB x.props && goodNs next x.id t)))
noncomputable def goodEs (G : PGraph) : Int → List PEdge → Bool
  | _, [] => true
  | last, x :: t => !decide (x.id ≤ last) && (!decide (G.next ≤ x.id) && (!hasN G x.id && (hasN G x.from_ && (hasN G x.to_ && (decide (NameOk x.typ) && (propsB x.props && goodEs G x.id t))))))
def sizeOkG (G : PGraph) : Bool := !decide (G.next < 1) && (!decide (4611686018427387904 < G.next) && !decide (1024 < G.nodes.length + G.edges.length))
noncomputable def goodG (G : PGraph) : Bool := sizeOkG G && (goodNs G.next 0 G.nodes && goodEs G 0 G.edges)

theorem goodNs_all {next : Int} : ∀ {l : List PNode} {last : Int}, goodNs next last l = true → (l.map (·.id)).Pairwise (· < ·) ∧ ∀ x ∈ l, last < x.id ∧ x.id < next ∧ NameOk x.typ ∧ PropsOk x.props
  | [], _, _ => ⟨by simp, by simp⟩
  | x :: t, last, h => by
    unfold goodNs at h
    simp only [Bool.and_eq_true, Bool.not_eq_true', decide_eq_false_iff_not, decide_eq_true_eq, propsB_iff] at h
    obtain ⟨h1, h2, h3, h4, h5⟩ := h
    obtain ⟨ih1, ih2⟩ := goodNs_all h5
    refine ⟨?_, ?_⟩
    · rw [List.map_cons, List.pairwise_cons]
      exact ⟨fun y hy => by obtain ⟨z, hz, rfl⟩ := List.mem_map.1 hy; exact (ih2 z hz).1, ih1⟩
    · intro y hy
      rcases List.mem_cons.1 hy with rfl | hy
      · exact ⟨by omega, by omega, h3, h4⟩
      · have := ih2 y hy
        exact ⟨by omega, this.2⟩
theorem goodEs_all {G : PGraph} : ∀ {l : List PEdge} {last : Int}, goodEs G last l = true → (l.map (·.id)).Pairwise (· < ·) ∧ ∀ x ∈ l, last < x.id ∧ x.id < G.next ∧ hasN G x.id = false ∧ hasN G x.from_ = true ∧ hasN G x.to_ = true ∧ NameOk x.typ ∧ PropsOk x.props
  | [], _, _ => ⟨by simp, by simp⟩
  | x :: t, last, h => by
    unfold goodEs at h
    simp only [Bool.and_eq_true, Bool.not_eq_true', decide_eq_false_iff_not, decide_eq_true_eq, propsB_iff] at h
    obtain ⟨h1, h2, h3, h4, h5, h6, h7, h8⟩ := h
    obtain ⟨ih1, ih2⟩ := goodEs_all h8
    refine ⟨?_, ?_⟩
    · rw [List.map_cons, List.pairwise_cons]
      exact ⟨fun y hy => by obtain ⟨z, hz, rfl⟩ := List.mem_map.1 hy; exact (ih2 z hz).1, ih1⟩
    · intro y hy
      rcases List.mem_cons.1 hy with rfl | hy
      · exact ⟨by omega, by omega, h3, h4, h5, h6, h7⟩
      · have := ih2 y hy
        exact ⟨by omega, this.2⟩
theorem goodG_inv {G : PGraph} (h : goodG G = true) : GInv G := by
  unfold goodG sizeOkG at h
  simp only [Bool.and_eq_true, Bool.not_eq_true', decide_eq_false_iff_not] at h
  obtain ⟨⟨h1, h2, h3⟩, h4, h5⟩ := h
  obtain ⟨n1, n2⟩ := goodNs_all h4
  obtain ⟨e1, e2⟩ := goodEs_all h5
  refine ⟨by omega, by omega, by omega, n1, e1, fun x hx => ?_, fun x hx => ?_⟩
  · have := n2 x hx
    exact ⟨by omega, this.2.1, this.2.2.2.1⟩
  · have := e2 x hx
    exact ⟨by omega, this.2.1, this.2.2.2.2.2.2.1⟩

end Go.Hg

namespace Go.Hg

def PropsP (l : List PProp) : Prop := (∀ p ∈ l, NameOk p.name ∧ GoodV p.v) ∧ l.Pairwise (fun p q => ltS p.name q.name = true)
theorem pw_adj {l : List PProp} (h : ∀ i p q, l[i]? = some p → l[i + 1]? = some q → ltS p.name q.name = true) : l.Pairwise (fun p q => ltS p.name q.name = true) := by
  rw [List.pairwise_iff_getElem]
  intro i j hi hj hij
  have key : ∀ d, (hd : i + d + 1 < l.length) → ltS l[i].name (l[i + d + 1]).name = true := by
    intro d
    induction d with
    | zero => intro hd; exact h i _ _ (List.getElem?_eq_getElem (by omega)) (List.getElem?_eq_getElem hd)
    | succ d ih =>
      intro hd
      exact ltS_trans (ih (by omega)) (h (i + d + 1) _ _ (List.getElem?_eq_getElem (by omega)) (List.getElem?_eq_getElem hd))
  have := key (j - i - 1) (by omega)
  simpa [show i + (j - i - 1) + 1 = j by omega] using this
theorem propsOk_iff {l : List PProp} : PropsOk l ↔ l.length ≤ 8 ∧ PropsP l := by
  constructor
  · rintro ⟨h8, h⟩
    refine ⟨h8, fun p hp => ?_, pw_adj fun i p q hp hq => ?_⟩
    · obtain ⟨i, hi⟩ := List.getElem?_of_mem hp
      have := h i (List.getElem?_eq_some_iff.1 hi).1 p hi
      exact ⟨this.1, this.2.1⟩
    · exact (h (i + 1) (List.getElem?_eq_some_iff.1 hq).1 q hq).2.2 (by omega) p hp
  · rintro ⟨h8, h1, h2⟩
    refine ⟨h8, fun i hi p hp => ⟨(h1 p (List.mem_of_getElem? hp)).1, (h1 p (List.mem_of_getElem? hp)).2, fun h0 q hq => ?_⟩⟩
    rw [List.pairwise_iff_getElem] at h2
    obtain ⟨a, rfl⟩ := List.getElem?_eq_some_iff.1 hp
    obtain ⟨b, rfl⟩ := List.getElem?_eq_some_iff.1 hq
    exact h2 (i - 1) i b a (by omega)
theorem PropsP.fil {l : List PProp} (h : PropsP l) (name : ByteArray) : PropsP (fil l name) :=
  ⟨fun p hp => h.1 p (List.mem_filter.1 hp).1, h.2.sublist List.filter_sublist⟩
theorem fil_ne {l : List PProp} {name : ByteArray} : ∀ p ∈ fil l name, p.name ≠ name := fun p hp => by
  have := (List.mem_filter.1 hp).2
  simpa using this
theorem PropsP.ins {l : List PProp} (h : PropsP l) {x : PProp} (hne : ∀ p ∈ l, p.name ≠ x.name) (hx : NameOk x.name ∧ GoodV x.v) : PropsP (ins l x) := by
  have hsplit : l = (l.takeWhile fun p => ltS p.name x.name) ++ (l.dropWhile fun p => ltS p.name x.name) := (List.takeWhile_append_dropWhile).symm
  have hlo : ∀ p ∈ l.takeWhile (fun p => ltS p.name x.name), ltS p.name x.name = true := fun p hp => List.all_eq_true.1 (List.all_takeWhile (p := fun p : PProp => ltS p.name x.name) (l := l)) p hp
  have hmem1 : ∀ p ∈ l.takeWhile (fun p => ltS p.name x.name), p ∈ l := fun p hp => (List.takeWhile_sublist _).subset hp
  have hmem2 : ∀ p ∈ l.dropWhile (fun p => ltS p.name x.name), p ∈ l := fun p hp => (List.dropWhile_sublist _).subset hp
  have hpw := h.2
  rw [hsplit, List.pairwise_append] at hpw
  obtain ⟨p1, p2, p3⟩ := hpw
  have hhi : ∀ p ∈ l.dropWhile (fun p => ltS p.name x.name), ltS x.name p.name = true := by
    cases hd : l.dropWhile (fun p => ltS p.name x.name) with
    | nil => simp
    | cons a t =>
      have ha : ltS a.name x.name = false := by
        have := List.head?_dropWhile_not (fun p => ltS p.name x.name) l
        rw [hd] at this
        simpa using this
      have hax : ltS x.name a.name = true := by
        have h1 := ltS_tri a.name x.name
        have h2 : decide (a.name = x.name) = false := decide_eq_false (hne a (hmem2 a (by rw [hd]; simp)))
        rw [ha, h2] at h1
        simpa using h1.symm
      rw [hd, List.pairwise_cons] at p2
      intro p hp
      rcases List.mem_cons.1 hp with rfl | hp
      · exact hax
      · exact ltS_trans hax (p2.1 p hp)
  unfold Hg.ins
  refine ⟨fun p hp => ?_, ?_⟩
  · rcases List.mem_append.1 hp with hp | hp
    · exact h.1 p (hmem1 p hp)
    · rcases List.mem_cons.1 hp with rfl | hp
      · exact hx
      · exact h.1 p (hmem2 p hp)
  · rw [List.pairwise_append, List.pairwise_cons]
    refine ⟨p1, ⟨hhi, p2⟩, fun p hp q hq => ?_⟩
    rcases List.mem_cons.1 hq with rfl | hq
    · exact hlo p hp
    · exact p3 p hp q hq
theorem PropsP.setP {l : List PProp} (h : PropsP l) {name : ByteArray} {v : PVal} (hn : NameOk name) (hv : GoodV v ∨ v.kind = 0) : PropsP (setP l name v) := by
  unfold Hg.setP
  split
  · exact h.fil name
  · refine (h.fil name).ins (x := ⟨name, v⟩) (fun p hp => fil_ne p hp) ⟨hn, ?_⟩
    rcases hv with hv | hv
    · exact hv
    · exact absurd hv ‹_›

structure GoodX (G : PGraph) : Prop where
  nodes : ∀ x ∈ G.nodes, NameOk x.typ ∧ PropsOk x.props
  edges : ∀ x ∈ G.edges, hasN G x.id = false ∧ hasN G x.from_ = true ∧ hasN G x.to_ = true ∧ NameOk x.typ ∧ PropsOk x.props
theorem goodNs_of {next : Int} : ∀ {l : List PNode} {last : Int}, (l.map (·.id)).Pairwise (· < ·) → (∀ x ∈ l, last < x.id ∧ x.id < next ∧ NameOk x.typ ∧ PropsOk x.props) → goodNs next last l = true
  | [], _, _, _ => rfl
  | x :: t, last, hp, h => by
    rw [List.map_cons, List.pairwise_cons] at hp
    have hx := h x (by simp)
    unfold goodNs
    rw [decide_eq_false (show ¬ x.id ≤ last by omega), decide_eq_false (show ¬ next ≤ x.id by omega), decide_eq_true hx.2.2.1, propsB_true hx.2.2.2,
      goodNs_of hp.2 (fun y hy => ⟨hp.1 y.id (List.mem_map_of_mem hy), (h y (by simp [hy])).2⟩)]
    rfl
theorem goodEs_of {G : PGraph} : ∀ {l : List PEdge} {last : Int}, (l.map (·.id)).Pairwise (· < ·) → (∀ x ∈ l, last < x.id ∧ x.id < G.next ∧ hasN G x.id = false ∧ hasN G x.from_ = true ∧ hasN G x.to_ = true ∧ NameOk x.typ ∧ PropsOk x.props) → goodEs G last l = true
  | [], _, _, _ => rfl
  | x :: t, last, hp, h => by
    rw [List.map_cons, List.pairwise_cons] at hp
    have hx := h x (by simp)
    unfold goodEs
    rw [decide_eq_false (show ¬ x.id ≤ last by omega), decide_eq_false (show ¬ G.next ≤ x.id by omega), hx.2.2.1, hx.2.2.2.1, hx.2.2.2.2.1, decide_eq_true hx.2.2.2.2.2.1, propsB_true hx.2.2.2.2.2.2,
      goodEs_of hp.2 (fun y hy => ⟨hp.1 y.id (List.mem_map_of_mem hy), (h y (by simp [hy])).2⟩)]
    rfl
theorem goodG_iff {G : PGraph} : goodG G = true ↔ GInv G ∧ GoodX G := by
  constructor
  · intro h
    refine ⟨goodG_inv h, ?_⟩
    unfold goodG at h
    simp only [Bool.and_eq_true] at h
    exact ⟨fun x hx => ((goodNs_all h.2.1).2 x hx).2.2, fun x hx => ((goodEs_all h.2.2).2 x hx).2.2⟩
  · rintro ⟨hi, hx⟩
    have h1 := hi.next0
    have h2 := hi.next1
    have h3 := hi.items
    unfold goodG sizeOkG
    rw [decide_eq_false (show ¬ G.next < 1 by omega), decide_eq_false (show ¬ 4611686018427387904 < G.next by omega), decide_eq_false (show ¬ 1024 < G.nodes.length + G.edges.length by omega),
      goodNs_of hi.nodes (fun x hx' => ⟨by have := (hi.nodesB x hx').1; omega, (hi.nodesB x hx').2.1, hx.nodes x hx'⟩),
      goodEs_of hi.edges (fun x hx' => ⟨by have := (hi.edgesB x hx').1; omega, (hi.edgesB x hx').2.1, hx.edges x hx'⟩)]
    rfl
def CatNames (c : PCat) : Prop := (∀ s ∈ c.nodes, NameOk s) ∧ ∀ s ∈ c.edges, NameOk s
theorem propsOk_nil : PropsOk [] := propsOk_iff.2 ⟨by simp, by simp, by simp⟩
theorem memS_mem {s : ByteArray} {l : List ByteArray} (h : memS s l = true) : s ∈ l := by
  obtain ⟨x, hx, hxs⟩ := List.any_eq_true.1 h
  have : x = s := by simpa using hxs
  rwa [this] at hx
theorem hasN_false {G : PGraph} {id : Int} (h : ∀ x ∈ G.nodes, x.id ≠ id) : hasN G id = false := List.any_eq_false.2 (fun x hx => by simpa using h x hx)
theorem hasN_true {G : PGraph} {id : Int} : hasN G id = true ↔ ∃ x ∈ G.nodes, x.id = id := by
  unfold hasN
  rw [List.any_eq_true]
  simp
theorem goodX_do {c : PCat} {o : POp} {G : PGraph} (hc : CatNames c) (hi : GInv G) (h : GoodX G) (hm : mayG c o G = 0) : GoodX (doG o G) := by
  unfold mayG at hm
  unfold Hg.doG
  by_cases h1 : o.kind = 1
  · rw [if_pos h1] at hm ⊢
    split at hm
    · simp at hm
    · rename_i ht
      have ht' : memS o.typ c.nodes = true := by simpa using ht
      have hhas : ∀ id, hasN (addNodeG o G) id = (hasN G id || decide (G.next = id)) := fun id => by simp [hasN, addNodeG]
      refine ⟨fun x hx => ?_, fun x hx => ?_⟩
      · rcases List.mem_append.1 hx with hx | hx
        · exact h.nodes x hx
        · simp at hx; subst hx; exact ⟨hc.1 _ (memS_mem ht'), propsOk_nil⟩
      · have he := h.edges x hx
        have hb := hi.edgesB x hx
        rw [hhas, hhas, hhas, he.1, he.2.1, he.2.2.1]
        exact ⟨by simp; omega, rfl, rfl, he.2.2.2⟩
  rw [if_neg h1] at hm ⊢
  by_cases h2 : o.kind = 2
  · rw [if_pos h2]
    refine ⟨fun x hx => h.nodes x (List.mem_filter.1 hx).1, fun x hx => ?_⟩
    obtain ⟨hx1, hx2⟩ := List.mem_filter.1 hx
    have he := h.edges x hx1
    have hat : x.from_ ≠ o.id ∧ x.to_ ≠ o.id := by
      unfold atE at hx2
      simpa using hx2
    have hkeep : ∀ id, id ≠ o.id → hasN G id = true → hasN (dropNodeG o G) id = true := fun id hid hh => by
      obtain ⟨y, hy, hyi⟩ := hasN_true.1 hh
      exact hasN_true.2 ⟨y, List.mem_filter.2 ⟨hy, by simp; omega⟩, hyi⟩
    refine ⟨hasN_false (fun y hy => ?_), hkeep _ hat.1 he.2.1, hkeep _ hat.2 he.2.2.1, he.2.2.2⟩
    have hy1 := (List.mem_filter.1 hy).1
    intro e
    have := hasN_true.2 ⟨y, hy1, e⟩
    rw [he.1] at this
    cases this
  rw [if_neg h2] at hm ⊢
  by_cases h3 : o.kind = 3
  · rw [if_pos h3] at hm ⊢
    split at hm
    · simp at hm
    · rename_i ht
      have ht' : memS o.typ c.edges = true := by simpa using ht
      split at hm
      · simp at hm
      · rename_i hft
        have hf : hasN G o.from_ = true ∧ hasN G o.to_ = true := by
          simp only [not_or] at hft
          exact ⟨by simpa using hft.1, by simpa using hft.2⟩
        refine ⟨h.nodes, fun x hx => ?_⟩
        show hasN G x.id = false ∧ hasN G x.from_ = true ∧ hasN G x.to_ = true ∧ _
        rcases List.mem_append.1 hx with hx | hx
        · exact h.edges x hx
        · simp at hx; subst hx
          exact ⟨hasN_false (fun y hy => by have := (hi.nodesB y hy).2.1; simp; omega), hf.1, hf.2, hc.2 _ (memS_mem ht'), propsOk_nil⟩
  rw [if_neg h3] at hm ⊢
  by_cases h4 : o.kind = 4
  · rw [if_pos h4]
    exact ⟨h.nodes, fun x hx => h.edges x (List.mem_filter.1 hx).1⟩
  rw [if_neg h4] at hm ⊢
  by_cases h5 : o.kind = 5
  · rw [if_pos h5] at hm ⊢
    split at hm
    · simp at hm
    · rename_i hnv
      simp only [not_or, not_and, Classical.not_not] at hnv
      have hv : GoodV o.v ∨ o.v.kind = 0 := by
        by_cases hg : GoodV o.v
        · exact .inl hg
        · exact .inr (hnv.2 hg).1
      split at hm
      · simp at hm
      · rename_i ps hps
        split at hm
        · simp at hm
        · rename_i h8
          have hset : PropsOk ps → PropsOk (setP ps o.name o.v) := fun hp => propsOk_iff.2 ⟨by omega, (propsOk_iff.1 hp).2.setP hnv.1 hv⟩
          unfold findP at hps
          unfold setPropG
          split
          · rename_i hn
            obtain ⟨y, hy, hyi⟩ := hasN_true.1 hn
            obtain ⟨i, hyi'⟩ := List.getElem?_of_mem hy
            rw [find_idx (fun x : PNode => x.id) hi.nodes hyi' hyi] at hps
            simp only [Option.some.injEq] at hps
            have hids : ∀ id, hasN (⟨G.nodes.map fun x => if x.id = o.id then ⟨x.id, x.typ, setP x.props o.name o.v⟩ else x, G.edges, G.next⟩ : PGraph) id = hasN G id := fun id => by
              unfold hasN
              show ((G.nodes.map fun x => if x.id = o.id then (⟨x.id, x.typ, setP x.props o.name o.v⟩ : PNode) else x).any _) = _
              rw [List.any_map]
              congr 1
              funext x
              simp only [Function.comp]
              split <;> rfl
            refine ⟨fun x hx => ?_, fun x hx => ?_⟩
            · obtain ⟨z, hz, rfl⟩ := List.mem_map.1 hx
              have hzn := h.nodes z hz
              split
              · rename_i hzi
                obtain ⟨j, hj⟩ := List.getElem?_of_mem hz
                have e1 := find_idx (fun x : PNode => x.id) hi.nodes hj hzi
                rw [find_idx (fun x : PNode => x.id) hi.nodes hyi' hyi] at e1
                simp only [Option.some.injEq] at e1
                subst e1
                exact ⟨hzn.1, by rw [hps]; exact hset (by rw [← hps]; exact hzn.2)⟩
              · exact hzn
            · rw [hids, hids, hids]; exact h.edges x hx
          · rename_i hn
            have hn' : hasN G o.id = false := by simpa using hn
            rw [find_none (fun x : PNode => x.id) hn'] at hps
            cases hf : G.edges.find? fun x => decide (x.id = o.id) with
            | none => rw [hf] at hps; simp at hps
            | some y =>
              rw [hf] at hps
              simp only [Option.some.injEq] at hps
              refine ⟨h.nodes, fun x hx => ?_⟩
              show hasN G x.id = false ∧ hasN G x.from_ = true ∧ hasN G x.to_ = true ∧ _
              obtain ⟨z, hz, rfl⟩ := List.mem_map.1 hx
              have hzn := h.edges z hz
              split
              · rename_i hzi
                obtain ⟨j, hj⟩ := List.getElem?_of_mem hz
                have e1 := find_idx (fun x : PEdge => x.id) hi.edges hj hzi
                rw [hf] at e1
                simp only [Option.some.injEq] at e1
                subst e1
                exact ⟨hzn.1, hzn.2.1, hzn.2.2.1, hzn.2.2.2.1, by rw [hps]; exact hset (by rw [← hps]; exact hzn.2.2.2.2)⟩
              · exact hzn
  rw [if_neg h5] at hm
  simp at hm
theorem goodG_step {c : PCat} {o : POp} {G : PGraph} (hc : CatNames c) (h : goodG G = true) : goodG (stepG c o G) = true := by
  obtain ⟨hi, hx⟩ := goodG_iff.1 h
  refine goodG_iff.2 ⟨hi.stepG, ?_⟩
  unfold stepG
  split
  · exact goodX_do hc hi hx ‹_›
  · exact hx
theorem goodG_empty : goodG PGraph.empty = true := goodG_iff.2 ⟨GInv.empty, by simp [PGraph.empty], by simp [PGraph.empty]⟩
theorem typesC_names : CatNames typesC := ⟨by decide, by decide⟩
end Go.Hg

namespace Go.Hg
theorem madeK_zero (l : List POp) : madeK 0 l = PGraph.empty := rfl
theorem madeK_good (l : List POp) (k : Nat) : goodG (madeK k l) = true := by
  unfold madeK
  generalize l.take k = m
  have key : ∀ (m : List POp) (G : PGraph), goodG G = true → goodG (m.foldl (fun G o => stepG typesC o G) G) = true := by
    intro m
    induction m with
    | nil => exact fun G h => h
    | cons a t ih => exact fun G h => ih _ (goodG_step typesC_names h)
  exact key m _ goodG_empty
end Go.Hg

namespace Go.Hg
open Go.RowKit Go.Proofs

theorem infoOp : (Tryz.prog.info? 44).map (fun i => (i.zero, i.size, i.bytes)) = some (some (.agg #[.int .i64 0, .int .i64 0, .string ByteArray.empty, .int .i64 0, .int .i64 0, .string ByteArray.empty, .int .i64 0, .int .i64 0, .string ByteArray.empty, .bool false]), 10, 104) := by kernel_rfl
theorem oneOps (l : List POp) : ∀ u ∈ (l.map POp.cells).flatten, u.oneCell' = true := by
  intro u hu
  obtain ⟨r, hr, hur⟩ := List.mem_flatten.1 hu
  obtain ⟨o, -, rfl⟩ := List.mem_map.1 hr
  simp only [POp.cells, List.mem_cons, List.not_mem_nil, or_false] at hur
  rcases hur with rfl | rfl | rfl | rfl | rfl | rfl | rfl | rfl | rfl | rfl <;> rfl
end Go.Hg

namespace Go.Hg

theorem madeK_edges (l : List POp) (k : Nat) : (madeK k l).edges.length ≤ k := by
  induction k with
  | zero => rw [madeK_zero]; simp [PGraph.empty]
  | succ k ih =>
    by_cases hk : k < l.length
    · rw [madeK_succ hk]
      have := edgesG_step typesC l[k] (madeK k l)
      omega
    · have h1 : madeK (k + 1) l = madeK k l := by unfold madeK; rw [List.take_of_length_le (by omega), List.take_of_length_le (by omega)]
      rw [h1]; omega
end Go.Hg

namespace Go.Hg
open Go.RowKit Go.Proofs

abbrev OpC (w : World) (b o : Nat) (x : POp) : Prop := w.cell? ⟨b, o, none⟩ = some (.int .i64 x.kind) ∧ w.cell? ⟨b, o + 1, none⟩ = some (.int .i64 x.id) ∧ w.cell? ⟨b, o + 2, none⟩ = some (.string x.typ) ∧ w.cell? ⟨b, o + 3, none⟩ = some (.int .i64 x.from_) ∧ w.cell? ⟨b, o + 4, none⟩ = some (.int .i64 x.to_) ∧ w.cell? ⟨b, o + 5, none⟩ = some (.string x.name) ∧ w.cell? ⟨b, o + 6, none⟩ = some (.int .i64 x.v.kind) ∧ w.cell? ⟨b, o + 7, none⟩ = some (.int .i64 x.v.n) ∧ w.cell? ⟨b, o + 8, none⟩ = some (.string x.v.s) ∧ w.cell? ⟨b, o + 9, none⟩ = some (.bool x.cascade)
end Go.Hg

namespace Go.Hg
open Go.RowKit Go.Proofs

def DisjG (G : PGraph) : Prop := ∀ e ∈ G.edges, hasN G e.id = false
theorem hasN_no {G : PGraph} {id : Int} : hasN G id = false ↔ ∀ x ∈ G.nodes, x.id ≠ id := by
  unfold hasN
  rw [List.any_eq_false]
  exact ⟨fun h x hx => by simpa using h x hx, fun h x hx => by simpa using h x hx⟩
theorem disj_step {c : PCat} {o : POp} {G : PGraph} (hG : GInv G) (h : DisjG G) : DisjG (stepG c o G) := by
  unfold stepG
  split
  · unfold doG
    split
    · intro e he
      rw [hasN_no]
      intro x hx
      rcases List.mem_append.1 hx with hx | hx
      · exact hasN_no.1 (h e he) x hx
      · rw [List.mem_singleton] at hx
        subst hx
        have := (hG.edgesB e he).2.1
        show G.next ≠ e.id
        omega
    · split
      · intro e he
        rw [hasN_no]
        intro x hx
        exact hasN_no.1 (h e (List.mem_filter.1 he).1) x (List.mem_filter.1 hx).1
      · split
        · intro e he
          rcases List.mem_append.1 he with he | he
          · exact h e he
          · rw [List.mem_singleton] at he
            subst he
            rw [hasN_no]
            intro x hx
            have := (hG.nodesB x hx).2.1
            show x.id ≠ G.next
            omega
        · split
          · intro e he
            exact h e (List.mem_filter.1 he).1
          · split
            · unfold setPropG
              split
              · intro e he
                rw [hasN_no]
                intro x hx
                obtain ⟨y, hy, rfl⟩ := List.mem_map.1 hx
                have := hasN_no.1 (h e he) y hy
                split
                · exact this
                · exact this
              · intro e he
                obtain ⟨y, hy, rfl⟩ := List.mem_map.1 he
                have := h y hy
                split
                · exact this
                · exact this
            · exact h
  · exact h
theorem disj_empty : DisjG PGraph.empty := fun e he => by cases he
theorem disj_made (l : List POp) : ∀ k, DisjG (madeK k l)
  | 0 => by rw [madeK_zero]; exact disj_empty
  | k + 1 => by
    by_cases hk : k < l.length
    · rw [madeK_succ hk]; exact disj_step (madeK_inv l k) (disj_made l k)
    · have h1 : madeK (k + 1) l = madeK k l := by unfold madeK; rw [List.take_of_length_le (by omega), List.take_of_length_le (by omega)]
      rw [h1]; exact disj_made l k
end Go.Hg

namespace Go.Hg
open Go.RowKit Go.Proofs

theorem rowOp : RowT Tryz.prog 44 10 104 := RowT.of infoOp rfl (by omega)
theorem opCells1 (o : POp) : ∀ u ∈ o.cells, u.oneCell' = true := by
  have h := oneOps [o]
  simpa using h
theorem ropOk (x : POp) (r : List Value) (h : r = POp.cells x) : r.length = 10 ∧ ∀ u ∈ r, u.oneCell' = true := by
  subst h
  exact ⟨rfl, opCells1 x⟩
def MadeOk (G : PGraph) : Prop := GInv G ∧ goodG G = true ∧ DisjG G ∧ G.edges.length ≤ 60
theorem madeOk (l : List POp) : MadeOk (madeG l) := ⟨madeK_inv _ _, madeK_good _ _, disj_made l 60, madeK_edges l 60⟩

end Go.Hg

namespace Go.Hg
open Go.RowKit Go.ChangeShapes Go.WideShapes Go.Deep Go.Proofs

theorem cellsOp : Tryz.prog.cellsOf 44 = 10 := by kernel_rfl
theorem cellsValue : Tryz.prog.cellsOf 42 = 3 := by kernel_rfl
theorem cellsI64 : Tryz.prog.cellsOf 2 = 1 := by kernel_rfl
theorem cellsB : Tryz.prog.cellsOf 4 = 1 := by kernel_rfl

section
variable {H : Type} {enc : TypeId × Value → H} {W : World} {base : Nat} {sp : Nat → Bool} {held : Bool}
theorem list10 {α : Type} {l : List α} (h : l.length = 10) : ∃ a b c d e f g i j k, l = [a, b, c, d, e, f, g, i, j, k] := by
  match l, h with
  | [a, b, c, d, e, f, g, i, j, k], _ => exact ⟨a, b, c, d, e, f, g, i, j, k, rfl⟩
theorem openValue {n : Nat} {cs : List Value} {x : DataW H × List MemPlace} (h : DataW.trod enc Tryz.prog W base sp held n 42 cs = some x) : ∃ v : PVal, cs = [.int .i64 v.kind, .int .i64 v.n, .string v.s] := by
  obtain ⟨xs, m, -, -, hl, hsz, hf⟩ := DataW.trod_struct Tryz.underlying42 h
  rw [cellsValue] at hl
  obtain ⟨a, b, c, rfl⟩ := list3 hl
  obtain ⟨y0, h0⟩ := field_at hsz hf 0 rfl rfl cellsI rfl
  obtain ⟨y1, h1⟩ := field_at hsz hf 1 rfl rfl cellsI64 rfl
  obtain ⟨y2, h2⟩ := field_at hsz hf 2 rfl rfl cellsStr rfl
  obtain ⟨k, e0, -⟩ := DataW.trod_int Tryz.underlying3 h0
  obtain ⟨j, e1, -⟩ := DataW.trod_int Tryz.underlying2 h1
  obtain ⟨s, e2, -⟩ := DataW.trod_string Tryz.underlying9 h2
  simp at e0 e1 e2
  exact ⟨⟨k, j, s⟩, by rw [e0, e1, e2]⟩
theorem openOp {n : Nat} {cs : List Value} {x : DataW H × List MemPlace} (h : DataW.trod enc Tryz.prog W base sp held n 44 cs = some x) : ∃ o : POp, cs = o.cells := by
  obtain ⟨xs, m, -, -, hl, hsz, hf⟩ := DataW.trod_struct Tryz.underlying44 h
  rw [cellsOp] at hl
  obtain ⟨c0, c1, c2, c3, c4, c5, c6, c7, c8, c9, rfl⟩ := list10 hl
  obtain ⟨y0, h0⟩ := field_at hsz hf 0 rfl rfl cellsI rfl
  obtain ⟨y1, h1⟩ := field_at hsz hf 1 rfl rfl cellsI64 rfl
  obtain ⟨y2, h2⟩ := field_at hsz hf 2 rfl rfl cellsStr rfl
  obtain ⟨y3, h3⟩ := field_at hsz hf 3 rfl rfl cellsI64 rfl
  obtain ⟨y4, h4⟩ := field_at hsz hf 4 rfl rfl cellsI64 rfl
  obtain ⟨y5, h5⟩ := field_at hsz hf 5 rfl rfl cellsStr rfl
  obtain ⟨y6, h6⟩ := field_at hsz hf 6 rfl rfl cellsValue rfl
  obtain ⟨y7, h7⟩ := field_at hsz hf 7 rfl rfl cellsB rfl
  obtain ⟨k, e0, -⟩ := DataW.trod_int Tryz.underlying3 h0
  obtain ⟨id, e1, -⟩ := DataW.trod_int Tryz.underlying2 h1
  obtain ⟨ty, e2, -⟩ := DataW.trod_string Tryz.underlying9 h2
  obtain ⟨fr, e3, -⟩ := DataW.trod_int Tryz.underlying2 h3
  obtain ⟨tw, e4, -⟩ := DataW.trod_int Tryz.underlying2 h4
  obtain ⟨nm, e5, -⟩ := DataW.trod_string Tryz.underlying9 h5
  obtain ⟨v, e6⟩ := openValue h6
  obtain ⟨cc, e7, -⟩ := DataW.trod_bool Tryz.underlying4 h7
  simp at e0 e1 e2 e3 e4 e5 e6 e7
  obtain ⟨e6, e61, e62⟩ := e6
  exact ⟨⟨k, id, ty, fr, tw, nm, v, cc⟩, by rw [e0, e1, e2, e3, e4, e5, e6, e61, e62, e7]; rfl⟩

set_option maxRecDepth 100000 in
theorem openOps {v : Value} {d : DataW H} {ps : List MemPlace} {r : Reach} {b0 : Nat} (hval : Value.okWide Tryz.prog W r b0 22 v) (h : DataW.Trod enc Tryz.prog W base sp held 22 v d ps) : ∃ l : List POp, OpsR (fun _ => True) W v l := by
  obtain ⟨a0, len0, cap0, rfl⟩ := okWide_slice Tryz.underlying22 hval
  obtain ⟨n, hn⟩ := h
  rcases open_slice Tryz.underlying22 hn with ⟨hc, -⟩ | ⟨a, len, cap, m, n, D, Pl, hc, -, hlc, hcm, hm, -, hel⟩
  · simp [Value.cells] at hc
    obtain ⟨rfl, rfl, rfl⟩ := hc
    exact ⟨[], (OwnL.nil W 0 10 (fun o r => r = POp.cells o)).toSl (by simp)⟩
  · simp [Value.cells] at hc
    obtain ⟨rfl, rfl, rfl⟩ := hc
    rw [cellsOp] at hel
    have hlm : len0 ≤ m := by rw [hm]; split <;> omega
    have key : ∀ i, i < len0 → ∃ o : POp, ∀ (j : Nat) c, o.cells[j]? = some c → W.cell? ((a.add (i * 10)).add j) = some c := by
      intro i hi
      obtain ⟨cs', h1, h2⟩ := hel i (by omega)
      obtain ⟨o, rfl⟩ := openOp h2
      exact ⟨o, (cells?_at h1).2⟩
    obtain ⟨l, hl, hcells⟩ : ∃ l : List POp, l.length = len0 ∧ ∀ i o, l[i]? = some o → ∀ (j : Nat) c, o.cells[j]? = some c → W.cell? ((a.add (i * 10)).add j) = some c := by
      have build : ∀ n, n ≤ len0 → ∃ l : List POp, l.length = n ∧ ∀ i o, l[i]? = some o → ∀ (j : Nat) c, o.cells[j]? = some c → W.cell? ((a.add (i * 10)).add j) = some c := by
        intro n
        induction n with
        | zero => intro _; exact ⟨[], rfl, by simp⟩
        | succ n ih =>
          intro hn
          obtain ⟨l, hl, hc⟩ := ih (by omega)
          obtain ⟨o, ho⟩ := key n (by omega)
          refine ⟨l ++ [o], by simp [hl], fun i o' hi => ?_⟩
          by_cases hin : i < n
          · rw [List.getElem?_append_left (by omega)] at hi
            exact hc i o' hi
          · rw [List.getElem?_append_right (by omega), hl] at hi
            have e : i - n = 0 := by have := (List.getElem?_eq_some_iff.1 hi).1; simp at this; omega
            rw [e] at hi
            simp at hi
            subst hi
            obtain rfl : i = n := by omega
            exact ho
      exact build len0 (Nat.le_refl _)
    subst hl
    refine ⟨l, some a, cap0, l.map POp.cells, rfl, hlc, hcm, by simp, fun k x r hx hr => ?_, fun h0 => ?_⟩
    · rw [List.getElem?_map, hx] at hr
      simpa using hr.symm
    · have hc0 := hcells 0 l[0] (List.getElem?_eq_getElem h0) 0 _ rfl
      rw [Nat.zero_mul] at hc0
      have ha : a = ⟨a.block, a.off, none⟩ := by
        obtain ⟨b, o, s⟩ := a
        cases s with
        | none => rfl
        | some s =>
          exfalso
          simp only [Addr.add, if_pos] at hc0
          unfold World.cell? at hc0
          simp at hc0
          split at hc0 <;> cases hc0
      have hblt : a.block < W.heap.size := by
        have := World.block_lt_of_cell? W _ hc0
        simpa [Addr.add] using this
      refine ⟨a.block, a.off, by rw [← ha], trivial, hblt, fun k r j c hr hj => ?_⟩
      rw [List.getElem?_map] at hr
      obtain ⟨o, ho, rfl⟩ := Option.map_eq_some_iff.1 hr
      have := hcells k o ho j c hj
      rw [ha, Addr.add_lit, Addr.add_lit] at this
      exact this
end
end Go.Hg
