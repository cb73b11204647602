/- val.Props, hedgerowref02.Props: whether properties are good; graph.good: whether nodes and edges are a graph's; A good graph stays good under each change; The graph of wakes, of layer 18; law18.Made as the laws behind it want it; small facts; A law's row: its argument of operations, opened. Conditions: those that each theorem names. -/
import Derived.WalkKit
import Derived.WalkSpells
import Derived.WalkLawsBesides
import Derived.Lib.Hide
import Derived.BigQuiet
import Derived.Deep.LoopGhost
import Derived.Test.YtfachjfohhhgeaaGreatDoorRows
import Derived.Lib.SliceRun
import Derived.WideMake
import Derived.Deep.RegionLaw
import Derived.Lib.Overlaps
import Derived.Deep.RegionHeld3
import Derived.Laws.ResultCell
import Derived.Laws.EntriesVeiled
import Derived.RowKit
import Derived.ReadAgain
import Derived.ChangeOld
import Derived.Deep.Slices
import Derived.Test.YtfachjfohhhgeaaGreatDoorBdL
import Derived.Test.YtfachjfohhhgeaaGreatDoorBdN
namespace Go.Hg
open Go.RowKit Go.Proofs

def PropOkAt (l : List PProp) (i : Nat) : Prop := ∀ p, l[i]? = some p → NameOk p.name ∧ GoodV p.v ∧ (0 < i → ∀ q, l[i - 1]? = some q → ltS q.name p.name = true)
def PropsOk (l : List PProp) : Prop := l.length ≤ 8 ∧ ∀ i, i < l.length → PropOkAt l i
open Classical in
noncomputable def propsB (l : List PProp) : Bool := decide (PropsOk l)
theorem propsB_true {l : List PProp} (h : PropsOk l) : propsB l = true := by unfold propsB; simp [h]
theorem propsB_iff {l : List PProp} : propsB l = true ↔ PropsOk l := by unfold propsB; simp

end Go.Hg

namespace Go.Hg
open Go.RowKit Go.Proofs

noncomputable def goodNs (next : Int) : Int → List PNode → Bool
  | _, [] => true
  | last, x :: t => !decide (x.id ≤ last) && (!decide (next ≤ x.id) && (decide (NameOk x.typ) && (propsB x.props && goodNs next x.id t)))
noncomputable def goodEs (G : PGraph) : Int → List PEdge → Bool
  | _, [] => true
  | last, x :: t => !decide (x.id ≤ last) && (!decide (G.next ≤ x.id) && (!hasN G x.id && (hasN G x.from_ && (hasN G x.to_ && (decide (NameOk x.typ) && (propsB x.props && goodEs G x.id t))))))
def sizeOkG (G : PGraph) : Bool := !decide (G.next < 1) && (!decide (4611686018427387904 < G.next) && !decide (1024 < G.nodes.length + G.edges.length))
noncomputable def goodG (G : PGraph) : Bool := sizeOkG G && (goodNs G.next 0 G.nodes && goodEs G 0 G.edges)

theorem goodNs_all {next : Int} : ∀ {l : List PNode} {last : Int}, goodNs next last l = true → (l.map (·.id)).Pairwise (· < ·) ∧ ∀ x ∈ l, last < x.id ∧ x.id < next ∧ NameOk x.typ ∧ PropsOk x.props
  | [], _, _ => ⟨by simp, by simp⟩
  | x :: t, last, h => by
    unfold goodNs at h
    simp only [Bool.and_eq_true, Bool.not_eq_true', decide_eq_false_iff_not, decide_eq_true_eq, propsB_iff] at h
    obtain ⟨h1, h2, h3, h4, h5⟩ := h
    obtain ⟨ih1, ih2⟩ := goodNs_all h5
    refine ⟨?_, ?_⟩
    · rw [List.map_cons, List.pairwise_cons]
      exact ⟨fun y hy => by obtain ⟨z, hz, rfl⟩ := List.mem_map.1 hy; exact (ih2 z hz).1, ih1⟩
    · intro y hy
      rcases List.mem_cons.1 hy with rfl | hy
      · exact ⟨by omega, by omega, h3, h4⟩
      · have := ih2 y hy
        exact ⟨by omega, this.2⟩
theorem goodEs_all {G : PGraph} : ∀ {l : List PEdge} {last : Int}, goodEs G last l = true → (l.map (·.id)).Pairwise (· < ·) ∧ ∀ x ∈ l, last < x.id ∧ x.id < G.next ∧ hasN G x.id = false ∧ hasN G x.from_ = true ∧ hasN G x.to_ = true ∧ NameOk x.typ ∧ PropsOk x.props
  | [], _, _ => ⟨by simp, by simp⟩
  | x :: t, last, h => by
    unfold goodEs at h
    simp only [Bool.and_eq_true, Bool.not_eq_true', decide_eq_false_iff_not, decide_eq_true_eq, propsB_iff] at h
    obtain ⟨h1, h2, h3, h4, h5, h6, h7, h8⟩ := h
    obtain ⟨ih1, ih2⟩ := goodEs_all h8
    refine ⟨?_, ?_⟩
    · rw [List.map_cons, List.pairwise_cons]
      exact ⟨fun y hy => by obtain ⟨z, hz, rfl⟩ := List.mem_map.1 hy; exact (ih2 z hz).1, ih1⟩
    · intro y hy
      rcases List.mem_cons.1 hy with rfl | hy
      · exact ⟨by omega, by omega, h3, h4, h5, h6, h7⟩
      · have := ih2 y hy
        exact ⟨by omega, this.2⟩
theorem goodG_inv {G : PGraph} (h : goodG G = true) : GInv G := by
  unfold goodG sizeOkG at h
  simp only [Bool.and_eq_true, Bool.not_eq_true', decide_eq_false_iff_not] at h
  obtain ⟨⟨h1, h2, h3⟩, h4, h5⟩ := h
  obtain ⟨n1, n2⟩ := goodNs_all h4
  obtain ⟨e1, e2⟩ := goodEs_all h5
  refine ⟨by omega, by omega, by omega, n1, e1, fun x hx => ?_, fun x hx => ?_⟩
  · have := n2 x hx
    exact ⟨by omega, this.2.1, this.2.2.2.1⟩
  · have := e2 x hx
    exact ⟨by omega, this.2.1, this.2.2.2.2.2.2.1⟩

end Go.Hg

namespace Go.Hg

def PropsP (l : List PProp) : Prop := (∀ p ∈ l, NameOk p.name ∧ GoodV p.v) ∧ l.Pairwise (fun p q => ltS p.name q.name = true)
theorem pw_adj {l : List PProp} (h : ∀ i p q, l[i]? = some p → l[i + 1]? = some q → ltS p.name q.name = true) : l.Pairwise (fun p q => ltS p.name q.name = true) := by
  rw [List.pairwise_iff_getElem]
  intro i j hi hj hij
  have key : ∀ d, (hd : i + d + 1 < l.length) → ltS l[i].name (l[i + d + 1]).name = true := by
    intro d
    induction d with
    | zero => intro hd; exact h i _ _ (List.getElem?_eq_getElem (by omega)) (List.getElem?_eq_getElem hd)
    | succ d ih =>
      intro hd
      exact ltS_trans (ih (by omega)) (h (i + d + 1) _ _ (List.getElem?_eq_getElem (by omega)) (List.getElem?_eq_getElem hd))
  have := key (j - i - 1) (by omega)
  simpa [show i + (j - i - 1) + 1 = j by omega] using this
theorem propsOk_iff {l : List PProp} : PropsOk l ↔ l.length ≤ 8 ∧ PropsP l := by
  constructor
  · rintro ⟨h8, h⟩
    refine ⟨h8, fun p hp => ?_, pw_adj fun i p q hp hq => ?_⟩
    · obtain ⟨i, hi⟩ := List.getElem?_of_mem hp
      have := h i (List.getElem?_eq_some_iff.1 hi).1 p hi
      exact ⟨this.1, this.2.1⟩
    · exact (h (i + 1) (List.getElem?_eq_some_iff.1 hq).1 q hq).2.2 (by omega) p hp
  · rintro ⟨h8, h1, h2⟩
    refine ⟨h8, fun i hi p hp => ⟨(h1 p (List.mem_of_getElem? hp)).1, (h1 p (List.mem_of_getElem? hp)).2, fun h0 q hq => ?_⟩⟩
    rw [List.pairwise_iff_getElem] at h2
    obtain ⟨a, rfl⟩ := List.getElem?_eq_some_iff.1 hp
    obtain ⟨b, rfl⟩ := List.getElem?_eq_some_iff.1 hq
    exact h2 (i - 1) i b a (by omega)
theorem PropsP.fil {l : List PProp} (h : PropsP l) (name : ByteArray) : PropsP (fil l name) :=
  ⟨fun p hp => h.1 p (List.mem_filter.1 hp).1, h.2.sublist List.filter_sublist⟩
theorem fil_ne {l : List PProp} {name : ByteArray} : ∀ p ∈ fil l name, p.name ≠ name := fun p hp => by
  have := (List.mem_filter.1 hp).2
  simpa using this
theorem PropsP.ins {l : List PProp} (h : PropsP l) {x : PProp} (hne : ∀ p ∈ l, p.name ≠ x.name) (hx : NameOk x.name ∧ GoodV x.v) : PropsP (ins l x) := by
  have hsplit : l = (l.takeWhile fun p => ltS p.name x.name) ++ (l.dropWhile fun p => ltS p.name x.name) := (List.takeWhile_append_dropWhile).symm
  have hlo : ∀ p ∈ l.takeWhile (fun p => ltS p.name x.name), ltS p.name x.name = true := fun p hp => List.all_eq_true.1 (List.all_takeWhile (p := fun p : PProp => ltS p.name x.name) (l := l)) p hp
  have hmem1 : ∀ p ∈ l.takeWhile (fun p => ltS p.name x.name), p ∈ l := fun p hp => (List.takeWhile_sublist _).subset hp
  have hmem2 : ∀ p ∈ l.dropWhile (fun p => ltS p.name x.name), p ∈ l := fun p hp => (List.dropWhile_sublist _).subset hp
  have hpw := h.2
  rw [hsplit, List.pairwise_append] at hpw
  obtain ⟨p1, p2, p3⟩ := hpw
  have hhi : ∀ p ∈ l.dropWhile (fun p => ltS p.name x.name), ltS x.name p.name = true := by
    cases hd : l.dropWhile (fun p => ltS p.name x.name) with
    | nil => simp
    | cons a t =>
      have ha : ltS a.name x.name = false := by
        have := List.head?_dropWhile_not (fun p => ltS p.name x.name) l
        rw [hd] at this
        simpa using this
      have hax : ltS x.name a.name = true := by
        have h1 := ltS_tri a.name x.name
        have h2 : decide (a.name = x.name) = false := decide_eq_false (hne a (hmem2 a (by rw [hd]; simp)))
        rw [ha, h2] at h1
        simpa using h1.symm
      rw [hd, List.pairwise_cons] at p2
      intro p hp
      rcases List.mem_cons.1 hp with rfl | hp
      · exact hax
      · exact ltS_trans hax (p2.1 p hp)
  unfold Hg.ins
  refine ⟨fun p hp => ?_, ?_⟩
  · rcases List.mem_append.1 hp with hp | hp
    · exact h.1 p (hmem1 p hp)
    · rcases List.mem_cons.1 hp with rfl | hp
      · exact hx
      · exact h.1 p (hmem2 p hp)
  · rw [List.pairwise_append, List.pairwise_cons]
    refine ⟨p1, ⟨hhi, p2⟩, fun p hp q hq => ?_⟩
    rcases List.mem_cons.1 hq with rfl | hq
    · exact hlo p hp
    · exact p3 p hp q hq
theorem PropsP.setP {l : List PProp} (h : PropsP l) {name : ByteArray} {v : PVal} (hn : NameOk name) (hv : GoodV v ∨ v.kind = 0) : PropsP (setP l name v) := by
  unfold Hg.setP
  split
  · exact h.fil name
  · refine (h.fil name).ins (x := ⟨name, v⟩) (fun p hp => fil_ne p hp) ⟨hn, ?_⟩
    rcases hv with hv | hv
    · exact hv
    · exact absurd hv ‹_›

structure GoodX (G : PGraph) : Prop where
  nodes : ∀ x ∈ G.nodes, NameOk x.typ ∧ PropsOk x.props
  edges : ∀ x ∈ G.edges, hasN G x.id = false ∧ hasN G x.from_ = true ∧ hasN G x.to_ = true ∧ NameOk x.typ ∧ PropsOk x.props
theorem goodNs_of {next : Int} : ∀ {l : List PNode} {last : Int}, (l.map (·.id)).Pairwise (· < ·) → (∀ x ∈ l, last < x.id ∧ x.id < next ∧ NameOk x.typ ∧ PropsOk x.props) → goodNs next last l = true
  | [], _, _, _ => rfl
  | x :: t, last, hp, h => by
    rw [List.map_cons, List.pairwise_cons] at hp
    have hx := h x (by simp)
    unfold goodNs
    rw [decide_eq_false (show ¬ x.id ≤ last by omega), decide_eq_false (show ¬ next ≤ x.id by omega), decide_eq_true hx.2.2.1, propsB_true hx.2.2.2,
      goodNs_of hp.2 (fun y hy => ⟨hp.1 y.id (List.mem_map_of_mem hy), (h y (by simp [hy])).2⟩)]
    rfl
theorem goodEs_of {G : PGraph} : ∀ {l : List PEdge} {last : Int}, (l.map (·.id)).Pairwise (· < ·) → (∀ x ∈ l, last < x.id ∧ x.id < G.next ∧ hasN G x.id = false ∧ hasN G x.from_ = true ∧ hasN G x.to_ = true ∧ NameOk x.typ ∧ PropsOk x.props) → goodEs G last l = true
  | [], _, _, _ => rfl
  | x :: t, last, hp, h => by
    rw [List.map_cons, List.pairwise_cons] at hp
    have hx := h x (by simp)
    unfold goodEs
    rw [decide_eq_false (show ¬ x.id ≤ last by omega), decide_eq_false (show ¬ G.next ≤ x.id by omega), hx.2.2.1, hx.2.2.2.1, hx.2.2.2.2.1, decide_eq_true hx.2.2.2.2.2.1, propsB_true hx.2.2.2.2.2.2,
      goodEs_of hp.2 (fun y hy => ⟨hp.1 y.id (List.mem_map_of_mem hy), (h y (by simp [hy])).2⟩)]
    rfl
theorem goodG_iff {G : PGraph} : goodG G = true ↔ GInv G ∧ GoodX G := by
  constructor
  · intro h
    refine ⟨goodG_inv h, ?_⟩
    unfold goodG at h
    simp only [Bool.and_eq_true] at h
    exact ⟨fun x hx => ((goodNs_all h.2.1).2 x hx).2.2, fun x hx => ((goodEs_all h.2.2).2 x hx).2.2⟩
  · rintro ⟨hi, hx⟩
    have h1 := hi.next0
    have h2 := hi.next1
    have h3 := hi.items
    unfold goodG sizeOkG
    rw [decide_eq_false (show ¬ G.next < 1 by omega), decide_eq_false (show ¬ 4611686018427387904 < G.next by omega), decide_eq_false (show ¬ 1024 < G.nodes.length + G.edges.length by omega),
      goodNs_of hi.nodes (fun x hx' => ⟨by have := (hi.nodesB x hx').1; omega, (hi.nodesB x hx').2.1, hx.nodes x hx'⟩),
      goodEs_of hi.edges (fun x hx' => ⟨by have := (hi.edgesB x hx').1; omega, (hi.edgesB x hx').2.1, hx.edges x hx'⟩)]
    rfl
def CatNames (c : PCat) : Prop := (∀ s ∈ c.nodes, NameOk s) ∧ ∀ s ∈ c.edges, NameOk s
theorem propsOk_nil : PropsOk [] := propsOk_iff.2 ⟨by simp, by simp, by simp⟩
theorem memS_mem {s : ByteArray} {l : List ByteArray} (h : memS s l = true) : s ∈ l := by
  obtain ⟨x, hx, hxs⟩ := List.any_eq_true.1 h
  have : x = s := by simpa using hxs
  rwa [this] at hx
theorem hasN_false {G : PGraph} {id : Int} (h : ∀ x ∈ G.nodes, x.id ≠ id) : hasN G id = false := List.any_eq_false.2 (fun x hx => by simpa using h x hx)
theorem hasN_true {G : PGraph} {id : Int} : hasN G id = true ↔ ∃ x ∈ G.nodes, x.id = id := by
  unfold hasN
  rw [List.any_eq_true]
  simp
theorem goodX_do {c : PCat} {o : POp} {G : PGraph} (hc : CatNames c) (hi : GInv G) (h : GoodX G) (hm : mayG c o G = 0) : GoodX (doG o G) := by
  unfold mayG at hm
  unfold Hg.doG
  by_cases h1 : o.kind = 1
  · rw [if_pos h1] at hm ⊢
    split at hm
    · simp at hm
    · rename_i ht
      have ht' : memS o.typ c.nodes = true := by simpa using ht
      have hhas : ∀ id, hasN (addNodeG o G) id = (hasN G id || decide (G.next = id)) := fun id => by simp [hasN, addNodeG]
      refine ⟨fun x hx => ?_, fun x hx => ?_⟩
      · rcases List.mem_append.1 hx with hx | hx
        · exact h.nodes x hx
        · simp at hx; subst hx; exact ⟨hc.1 _ (memS_mem ht'), propsOk_nil⟩
      · have he := h.edges x hx
        have hb := hi.edgesB x hx
        rw [hhas, hhas, hhas, he.1, he.2.1, he.2.2.1]
        exact ⟨by simp; omega, rfl, rfl, he.2.2.2⟩
  rw [if_neg h1] at hm ⊢
  by_cases h2 : o.kind = 2
  · rw [if_pos h2]
    refine ⟨fun x hx => h.nodes x (List.mem_filter.1 hx).1, fun x hx => ?_⟩
    obtain ⟨hx1, hx2⟩ := List.mem_filter.1 hx
    have he := h.edges x hx1
    have hat : x.from_ ≠ o.id ∧ x.to_ ≠ o.id := by
      unfold atE at hx2
      simpa using hx2
    have hkeep : ∀ id, id ≠ o.id → hasN G id = true → hasN (dropNodeG o G) id = true := fun id hid hh => by
      obtain ⟨y, hy, hyi⟩ := hasN_true.1 hh
      exact hasN_true.2 ⟨y, List.mem_filter.2 ⟨hy, by simp; omega⟩, hyi⟩
    refine ⟨hasN_false (fun y hy => ?_), hkeep _ hat.1 he.2.1, hkeep _ hat.2 he.2.2.1, he.2.2.2⟩
    have hy1 := (List.mem_filter.1 hy).1
    intro e
    have := hasN_true.2 ⟨y, hy1, e⟩
    rw [he.1] at this
    cases this
  rw [if_neg h2] at hm ⊢
  by_cases h3 : o.kind = 3
  · rw [if_pos h3] at hm ⊢
    split at hm
    · simp at hm
    · rename_i ht
      have ht' : memS o.typ c.edges = true := by simpa using ht
      split at hm
      · simp at hm
      · rename_i hft
        have hf : hasN G o.from_ = true ∧ hasN G o.to_ = true := by
          simp only [not_or] at hft
          exact ⟨by simpa using hft.1, by simpa using hft.2⟩
        refine ⟨h.nodes, fun x hx => ?_⟩
        show hasN G x.id = false ∧ hasN G x.from_ = true ∧ hasN G x.to_ = true ∧ _
        rcases List.mem_append.1 hx with hx | hx
        · exact h.edges x hx
        · simp at hx; subst hx
          exact ⟨hasN_false (fun y hy => by have := (hi.nodesB y hy).2.1; simp; omega), hf.1, hf.2, hc.2 _ (memS_mem ht'), propsOk_nil⟩
  rw [if_neg h3] at hm ⊢
  by_cases h4 : o.kind = 4
  · rw [if_pos h4]
    exact ⟨h.nodes, fun x hx => h.edges x (List.mem_filter.1 hx).1⟩
  rw [if_neg h4] at hm ⊢
  by_cases h5 : o.kind = 5
  · rw [if_pos h5] at hm ⊢
    split at hm
    · simp at hm
    · rename_i hnv
      simp only [not_or, not_and, Classical.not_not] at hnv
      have hv : GoodV o.v ∨ o.v.kind = 0 := by
        by_cases hg : GoodV o.v
        · exact .inl hg
        · exact .inr (hnv.2 hg).1
      split at hm
      · simp at hm
      · rename_i ps hps
        split at hm
        · simp at hm
        · rename_i h8
          have hset : PropsOk ps → PropsOk (setP ps o.name o.v) := fun hp => propsOk_iff.2 ⟨by omega, (propsOk_iff.1 hp).2.setP hnv.1 hv⟩
          unfold findP at hps
          unfold setPropG
          split
          · rename_i hn
            obtain ⟨y, hy, hyi⟩ := hasN_true.1 hn
            obtain ⟨i, hyi'⟩ := List.getElem?_of_mem hy
            rw [find_idx (fun x : PNode => x.id) hi.nodes hyi' hyi] at hps
            simp only [Option.some.injEq] at hps
            have hids : ∀ id, hasN (⟨G.nodes.map fun x => if x.id = o.id then ⟨x.id, x.typ, setP x.props o.name o.v⟩ else x, G.edges, G.next⟩ : PGraph) id = hasN G id := fun id => by
              unfold hasN
              show ((G.nodes.map fun x => if x.id = o.id then (⟨x.id, x.typ, setP x.props o.name o.v⟩ : PNode) else x).any _) = _
              rw [List.any_map]
              congr 1
              funext x
              simp only [Function.comp]
              split <;> rfl
            refine ⟨fun x hx => ?_, fun x hx => ?_⟩
            · obtain ⟨z, hz, rfl⟩ := List.mem_map.1 hx
              have hzn := h.nodes z hz
              split
              · rename_i hzi
                obtain ⟨j, hj⟩ := List.getElem?_of_mem hz
                have e1 := find_idx (fun x : PNode => x.id) hi.nodes hj hzi
                rw [find_idx (fun x : PNode => x.id) hi.nodes hyi' hyi] at e1
                simp only [Option.some.injEq] at e1
                subst e1
                exact ⟨hzn.1, by rw [hps]; exact hset (by rw [← hps]; exact hzn.2)⟩
              · exact hzn
            · rw [hids, hids, hids]; exact h.edges x hx
          · rename_i hn
            have hn' : hasN G o.id = false := by simpa using hn
            rw [find_none (fun x : PNode => x.id) hn'] at hps
            cases hf : G.edges.find? fun x => decide (x.id = o.id) with
            | none => rw [hf] at hps; simp at hps
            | some y =>
              rw [hf] at hps
              simp only [Option.some.injEq] at hps
              refine ⟨h.nodes, fun x hx => ?_⟩
              show hasN G x.id = false ∧ hasN G x.from_ = true ∧ hasN G x.to_ = true ∧ _
              obtain ⟨z, hz, rfl⟩ := List.mem_map.1 hx
              have hzn := h.edges z hz
              split
              · rename_i hzi
                obtain ⟨j, hj⟩ := List.getElem?_of_mem hz
                have e1 := find_idx (fun x : PEdge => x.id) hi.edges hj hzi
                rw [hf] at e1
                simp only [Option.some.injEq] at e1
                subst e1
                exact ⟨hzn.1, hzn.2.1, hzn.2.2.1, hzn.2.2.2.1, by rw [hps]; exact hset (by rw [← hps]; exact hzn.2.2.2.2)⟩
              · exact hzn
  rw [if_neg h5] at hm
  simp at hm
theorem goodG_step {c : PCat} {o : POp} {G : PGraph} (hc : CatNames c) (h : goodG G = true) : goodG (stepG c o G) = true := by
  obtain ⟨hi, hx⟩ := goodG_iff.1 h
  refine goodG_iff.2 ⟨hi.stepG, ?_⟩
  unfold stepG
  split
  · exact goodX_do hc hi hx ‹_›
  · exact hx
theorem goodG_empty : goodG PGraph.empty = true := goodG_iff.2 ⟨GInv.empty, by simp [PGraph.empty], by simp [PGraph.empty]⟩
theorem typesC_names : CatNames typesC := ⟨by decide, by decide⟩
end Go.Hg

namespace Go.Hg
theorem madeK_good (l : List POp) (k : Nat) : goodG (madeK k l) = true := by
  unfold madeK
  generalize l.take k = m
  have key : ∀ (m : List POp) (G : PGraph), goodG G = true → goodG (m.foldl (fun G o => stepG typesC o G) G) = true := by
    intro m
    induction m with
    | nil => exact fun G h => h
    | cons a t ih => exact fun G h => ih _ (goodG_step typesC_names h)
  exact key m _ goodG_empty
end Go.Hg

namespace Go.Hg
open Go.RowKit Go.Proofs

theorem wf64 {n : Int} (h1 : -9223372036854775808 ≤ n) (h2 : n ≤ 9223372036854775807) : (Lit.int .i64 n).wf = true := by
  simp only [Lit.wf, Bool.and_eq_true, decide_eq_true_eq]
  exact ⟨h1, h2⟩
theorem ends64f {G : PGraph} (hg : goodG G = true) : ∀ e ∈ G.edges, (Lit.int .i64 e.from_).wf = true := by
  obtain ⟨hi, hx⟩ := goodG_iff.1 hg
  intro e he
  have h1 := hasN_true.1 (hx.edges e he).2.1
  obtain ⟨n, hn, h⟩ := h1
  have h2 := hi.nodesB n hn
  have h3 := hi.next1
  rw [h] at h2
  exact wf64 (by omega) (by omega)
end Go.Hg

namespace Go.Hg
open Go.RowKit Go.ChangeShapes Go.WideShapes Go.Deep Go.Proofs

theorem cellsOp : Tryz.prog.cellsOf 50 = 10 := by kernel_rfl
theorem cellsValue : Tryz.prog.cellsOf 48 = 3 := by kernel_rfl
theorem cellsB : Tryz.prog.cellsOf 4 = 1 := by kernel_rfl

section
variable {H : Type} {enc : TypeId × Value → H} {W : World} {base : Nat} {sp : Nat → Bool} {held : Bool}
theorem list3 {α : Type} {l : List α} (h : l.length = 3) : ∃ a b c, l = [a, b, c] := by
  match l, h with
  | [a, b, c], _ => exact ⟨a, b, c, rfl⟩
theorem list10 {α : Type} {l : List α} (h : l.length = 10) : ∃ a b c d e f g i j k, l = [a, b, c, d, e, f, g, i, j, k] := by
  match l, h with
  | [a, b, c, d, e, f, g, i, j, k], _ => exact ⟨a, b, c, d, e, f, g, i, j, k, rfl⟩
theorem field_at {t : TypeId} {fs : Array Field} {n : Nat} {cs : List Value} {xs : List (DataW H × List MemPlace)} (hsz : xs.length = fs.size)
    (hf : ∀ (i : Nat) (f : Field), fs[i]? = some f → DataW.trod enc Tryz.prog W base sp held n f.type ((cs.drop f.offset).take (Tryz.prog.cellsOf f.type)) = xs[i]?) (i : Nat) {f : Field} (hi : fs[i]? = some f) (ht : f.type = t) {c o : Nat} (hc : Tryz.prog.cellsOf t = c) (ho : f.offset = o) :
    ∃ y, DataW.trod enc Tryz.prog W base sp held n t ((cs.drop o).take c) = some y := by
  have h := hf i f hi
  have hlt : i < xs.length := by rw [hsz]; exact (Array.getElem?_eq_some_iff.1 hi).1
  rw [List.getElem?_eq_getElem hlt, ht, hc, ho] at h
  exact ⟨_, h⟩
theorem openValue {n : Nat} {cs : List Value} {x : DataW H × List MemPlace} (h : DataW.trod enc Tryz.prog W base sp held n 48 cs = some x) : ∃ v : PVal, cs = [.int .i64 v.kind, .int .i64 v.n, .string v.s] := by
  obtain ⟨xs, m, -, -, hl, hsz, hf⟩ := DataW.trod_struct Tryz.underlying48 h
  rw [cellsValue] at hl
  obtain ⟨a, b, c, rfl⟩ := list3 hl
  obtain ⟨y0, h0⟩ := field_at hsz hf 0 rfl rfl cellsI rfl
  obtain ⟨y1, h1⟩ := field_at hsz hf 1 rfl rfl cellsI64 rfl
  obtain ⟨y2, h2⟩ := field_at hsz hf 2 rfl rfl cellsStr rfl
  obtain ⟨k, e0, -⟩ := DataW.trod_int Tryz.underlying3 h0
  obtain ⟨j, e1, -⟩ := DataW.trod_int Tryz.underlying2 h1
  obtain ⟨s, e2, -⟩ := DataW.trod_string Tryz.underlying9 h2
  simp at e0 e1 e2
  exact ⟨⟨k, j, s⟩, by rw [e0, e1, e2]⟩
theorem openOp {n : Nat} {cs : List Value} {x : DataW H × List MemPlace} (h : DataW.trod enc Tryz.prog W base sp held n 50 cs = some x) : ∃ o : POp, cs = o.cells := by
  obtain ⟨xs, m, -, -, hl, hsz, hf⟩ := DataW.trod_struct Tryz.underlying50 h
  rw [cellsOp] at hl
  obtain ⟨c0, c1, c2, c3, c4, c5, c6, c7, c8, c9, rfl⟩ := list10 hl
  obtain ⟨y0, h0⟩ := field_at hsz hf 0 rfl rfl cellsI rfl
  obtain ⟨y1, h1⟩ := field_at hsz hf 1 rfl rfl cellsI64 rfl
  obtain ⟨y2, h2⟩ := field_at hsz hf 2 rfl rfl cellsStr rfl
  obtain ⟨y3, h3⟩ := field_at hsz hf 3 rfl rfl cellsI64 rfl
  obtain ⟨y4, h4⟩ := field_at hsz hf 4 rfl rfl cellsI64 rfl
  obtain ⟨y5, h5⟩ := field_at hsz hf 5 rfl rfl cellsStr rfl
  obtain ⟨y6, h6⟩ := field_at hsz hf 6 rfl rfl cellsValue rfl
  obtain ⟨y7, h7⟩ := field_at hsz hf 7 rfl rfl cellsB rfl
  obtain ⟨k, e0, -⟩ := DataW.trod_int Tryz.underlying3 h0
  obtain ⟨id, e1, -⟩ := DataW.trod_int Tryz.underlying2 h1
  obtain ⟨ty, e2, -⟩ := DataW.trod_string Tryz.underlying9 h2
  obtain ⟨fr, e3, -⟩ := DataW.trod_int Tryz.underlying2 h3
  obtain ⟨tw, e4, -⟩ := DataW.trod_int Tryz.underlying2 h4
  obtain ⟨nm, e5, -⟩ := DataW.trod_string Tryz.underlying9 h5
  obtain ⟨v, e6⟩ := openValue h6
  obtain ⟨cc, e7, -⟩ := DataW.trod_bool Tryz.underlying4 h7
  simp at e0 e1 e2 e3 e4 e5 e6 e7
  obtain ⟨e6, e61, e62⟩ := e6
  exact ⟨⟨k, id, ty, fr, tw, nm, v, cc⟩, by rw [e0, e1, e2, e3, e4, e5, e6, e61, e62, e7]; rfl⟩

end
end Go.Hg
