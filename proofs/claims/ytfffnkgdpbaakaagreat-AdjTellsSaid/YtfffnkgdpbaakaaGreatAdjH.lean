/- graph.good: whether nodes and edges are a graph's; A good graph stays good under each change; The graph of wakes, of layer 18; hedgerowlaw17.wakes: true; law18.Made: a graph of changes, and the document's; hedgerowkeep.Longs, Texts, Rule, Cats of equal ones: true; adj.Near, Degree; what Edges tells of a graph; hedgerowkeep.Mod; hedgerowlaw18.in, wakes. Conditions: those that each theorem names. -/
import Derived.Test.YtfffnkgdpbaakaaGreatAdjD
import Derived.Test.YtfffnkgdpbaakaaGreatAdjG
import Derived.Test.YtfffnkgdpbaakaaGreatAdjC
import Derived.Test.YtfffnkgdpbaakaaGreatAdjA
import Derived.Test.YtfffnkgdpbaakaaGreatAdjB
import Derived.Test.YtfffnkgdpbaakaaGreatAdjE
namespace Go.Hg
open Go.RowKit Go.Proofs

noncomputable def goodNs (next : Int) : Int → List PNode → Bool
  | _, [] => true
  | last, x :: t => !decide (x.id ≤ last) && (!decide (next ≤ x.id) && (decide (NameOk x.typ) && (propsB x.props && goodNs next x.id t)))
noncomputable def goodEs (G : PGraph) : Int → List PEdge → Bool
  | _, [] => true
  | last, x :: t => !decide (x.id ≤ last) && (!decide (G.next ≤ x.id) && (!hasN G x.id && (hasN G x.from_ && (hasN G x.to_ && (decide (NameOk x.typ) && (propsB x.props && goodEs G x.id t))))))
def sizeOkG (G : PGraph) : Bool := !decide (G.next < 1) && (!decide (4611686018427387904 < G.next) && !decide (1024 < G.nodes.length + G.edges.length))
noncomputable def goodG (G : PGraph) : Bool := sizeOkG G && (goodNs G.next 0 G.nodes && goodEs G 0 G.edges)

theorem goodNs_all {next : Int} : ∀ {l : List PNode} {last : Int}, goodNs next last l = true → (l.map (·.id)).Pairwise (· < ·) ∧ ∀ x ∈ l, last < x.id ∧ x.id < next ∧ NameOk x.typ ∧ PropsOk x.props
  | [], _, _ => ⟨by simp, by simp⟩
  | x :: t, last, h => by
    unfold goodNs at h
    simp only [Bool.and_eq_true, Bool.not_eq_true', decide_eq_false_iff_not, decide_eq_true_eq, propsB_iff] at h
    obtain ⟨h1, h2, h3, h4, h5⟩ := h
    obtain ⟨ih1, ih2⟩ := goodNs_all h5
    refine ⟨?_, ?_⟩
    · rw [List.map_cons, List.pairwise_cons]
      exact ⟨fun y hy => by obtain ⟨z, hz, rfl⟩ := List.mem_map.1 hy; exact (ih2 z hz).1, ih1⟩
    · intro y hy
      rcases List.mem_cons.1 hy with rfl | hy
      · exact ⟨by omega, by omega, h3, h4⟩
      · have := ih2 y hy
        exact ⟨by omega, this.2⟩
theorem goodEs_all {G : PGraph} : ∀ {l : List PEdge} {last : Int}, goodEs G last l = true → (l.map (·.id)).Pairwise (· < ·) ∧ ∀ x ∈ l, last < x.id ∧ x.id < G.next ∧ hasN G x.id = false ∧ hasN G x.from_ = true ∧ hasN G x.to_ = true ∧ NameOk x.typ ∧ PropsOk x.props
  | [], _, _ => ⟨by simp, by simp⟩
  | x :: t, last, h => by
    unfold goodEs at h
    simp only [Bool.and_eq_true, Bool.not_eq_true', decide_eq_false_iff_not, decide_eq_true_eq, propsB_iff] at h
    obtain ⟨h1, h2, h3, h4, h5, h6, h7, h8⟩ := h
    obtain ⟨ih1, ih2⟩ := goodEs_all h8
    refine ⟨?_, ?_⟩
    · rw [List.map_cons, List.pairwise_cons]
      exact ⟨fun y hy => by obtain ⟨z, hz, rfl⟩ := List.mem_map.1 hy; exact (ih2 z hz).1, ih1⟩
    · intro y hy
      rcases List.mem_cons.1 hy with rfl | hy
      · exact ⟨by omega, by omega, h3, h4, h5, h6, h7⟩
      · have := ih2 y hy
        exact ⟨by omega, this.2⟩
theorem goodG_inv {G : PGraph} (h : goodG G = true) : GInv G := by
  unfold goodG sizeOkG at h
  simp only [Bool.and_eq_true, Bool.not_eq_true', decide_eq_false_iff_not] at h
  obtain ⟨⟨h1, h2, h3⟩, h4, h5⟩ := h
  obtain ⟨n1, n2⟩ := goodNs_all h4
  obtain ⟨e1, e2⟩ := goodEs_all h5
  refine ⟨by omega, by omega, by omega, n1, e1, fun x hx => ?_, fun x hx => ?_⟩
  · have := n2 x hx
    exact ⟨by omega, this.2.1, this.2.2.2.1⟩
  · have := e2 x hx
    exact ⟨by omega, this.2.1, this.2.2.2.2.2.2.1⟩

end Go.Hg

namespace Go.Hg

theorem bytesLess_trans : ∀ {a b c : List UInt8}, Op.bytesLess a b = true → Op.bytesLess b c = true → Op.bytesLess a c = true
  | [], b, c, h1, h2 => by
    cases c with
    | nil => cases b <;> simp [Op.bytesLess] at h1 h2
    | cons => rfl
  | x :: a, [], c, h1, _ => by simp [Op.bytesLess] at h1
  | x :: a, y :: b, [], _, h2 => by simp [Op.bytesLess] at h2
  | x :: a, y :: b, z :: c, h1, h2 => by
    have ih := @bytesLess_trans a b c
    simp only [Op.bytesLess, Bool.or_eq_true, Bool.and_eq_true, decide_eq_true_eq, beq_iff_eq] at h1 h2 ⊢
    rcases h1 with h1 | ⟨rfl, h1⟩
    · rcases h2 with h2 | ⟨rfl, h2⟩
      · left; rw [UInt8.lt_iff_toNat_lt] at *; omega
      · exact .inl h1
    · rcases h2 with h2 | ⟨rfl, h2⟩
      · exact .inl h2
      · exact .inr ⟨rfl, ih h1 h2⟩
theorem ltS_trans {a b c : ByteArray} (h1 : ltS a b = true) (h2 : ltS b c = true) : ltS a c = true := bytesLess_trans h1 h2

/-- a property set in plain words -/
def PropsP (l : List PProp) : Prop := (∀ p ∈ l, NameOk p.name ∧ GoodV p.v) ∧ l.Pairwise (fun p q => ltS p.name q.name = true)
theorem pw_adj {l : List PProp} (h : ∀ i p q, l[i]? = some p → l[i + 1]? = some q → ltS p.name q.name = true) : l.Pairwise (fun p q => ltS p.name q.name = true) := by
  rw [List.pairwise_iff_getElem]
  intro i j hi hj hij
  have key : ∀ d, (hd : i + d + 1 < l.length) → ltS l[i].name (l[i + d + 1]).name = true := by
    intro d
    induction d with
    | zero => intro hd; exact h i _ _ (List.getElem?_eq_getElem (by omega)) (List.getElem?_eq_getElem hd)
    | succ d ih =>
      intro hd
      exact ltS_trans (ih (by omega)) (h (i + d + 1) _ _ (List.getElem?_eq_getElem (by omega)) (List.getElem?_eq_getElem hd))
  have := key (j - i - 1) (by omega)
  simpa [show i + (j - i - 1) + 1 = j by omega] using this
theorem propsOk_iff {l : List PProp} : PropsOk l ↔ l.length ≤ 8 ∧ PropsP l := by
  constructor
  · rintro ⟨h8, h⟩
    refine ⟨h8, fun p hp => ?_, pw_adj fun i p q hp hq => ?_⟩
    · obtain ⟨i, hi⟩ := List.getElem?_of_mem hp
      have := h i (List.getElem?_eq_some_iff.1 hi).1 p hi
      exact ⟨this.1, this.2.1⟩
    · exact (h (i + 1) (List.getElem?_eq_some_iff.1 hq).1 q hq).2.2 (by omega) p hp
  · rintro ⟨h8, h1, h2⟩
    refine ⟨h8, fun i hi p hp => ⟨(h1 p (List.mem_of_getElem? hp)).1, (h1 p (List.mem_of_getElem? hp)).2, fun h0 q hq => ?_⟩⟩
    rw [List.pairwise_iff_getElem] at h2
    obtain ⟨a, rfl⟩ := List.getElem?_eq_some_iff.1 hp
    obtain ⟨b, rfl⟩ := List.getElem?_eq_some_iff.1 hq
    exact h2 (i - 1) i b a (by omega)
theorem PropsP.fil {l : List PProp} (h : PropsP l) (name : ByteArray) : PropsP (fil l name) :=
  ⟨fun p hp => h.1 p (List.mem_filter.1 hp).1, h.2.sublist List.filter_sublist⟩
theorem fil_ne {l : List PProp} {name : ByteArray} : ∀ p ∈ fil l name, p.name ≠ name := fun p hp => by
  have := (List.mem_filter.1 hp).2
  simpa using this
theorem PropsP.ins {l : List PProp} (h : PropsP l) {x : PProp} (hne : ∀ p ∈ l, p.name ≠ x.name) (hx : NameOk x.name ∧ GoodV x.v) : PropsP (ins l x) := by
  have hsplit : l = (l.takeWhile fun p => ltS p.name x.name) ++ (l.dropWhile fun p => ltS p.name x.name) := (List.takeWhile_append_dropWhile).symm
  have hlo : ∀ p ∈ l.takeWhile (fun p => ltS p.name x.name), ltS p.name x.name = true := fun p hp => List.all_eq_true.1 (List.all_takeWhile (p := fun p : PProp => ltS p.name x.name) (l := l)) p hp
  have hmem1 : ∀ p ∈ l.takeWhile (fun p => ltS p.name x.name), p ∈ l := fun p hp => (List.takeWhile_sublist _).subset hp
  have hmem2 : ∀ p ∈ l.dropWhile (fun p => ltS p.name x.name), p ∈ l := fun p hp => (List.dropWhile_sublist _).subset hp
  have hpw := h.2
  rw [hsplit, List.pairwise_append] at hpw
  obtain ⟨p1, p2, p3⟩ := hpw
  have hhi : ∀ p ∈ l.dropWhile (fun p => ltS p.name x.name), ltS x.name p.name = true := by
    cases hd : l.dropWhile (fun p => ltS p.name x.name) with
    | nil => simp
    | cons a t =>
      have ha : ltS a.name x.name = false := by
        have := List.head?_dropWhile_not (fun p => ltS p.name x.name) l
        rw [hd] at this
        simpa using this
      have hax : ltS x.name a.name = true := by
        have h1 := ltS_tri a.name x.name
        have h2 : decide (a.name = x.name) = false := decide_eq_false (hne a (hmem2 a (by rw [hd]; simp)))
        rw [ha, h2] at h1
        simpa using h1.symm
      rw [hd, List.pairwise_cons] at p2
      intro p hp
      rcases List.mem_cons.1 hp with rfl | hp
      · exact hax
      · exact ltS_trans hax (p2.1 p hp)
  unfold Hg.ins
  refine ⟨fun p hp => ?_, ?_⟩
  · rcases List.mem_append.1 hp with hp | hp
    · exact h.1 p (hmem1 p hp)
    · rcases List.mem_cons.1 hp with rfl | hp
      · exact hx
      · exact h.1 p (hmem2 p hp)
  · rw [List.pairwise_append, List.pairwise_cons]
    refine ⟨p1, ⟨hhi, p2⟩, fun p hp q hq => ?_⟩
    rcases List.mem_cons.1 hq with rfl | hq
    · exact hlo p hp
    · exact p3 p hp q hq
theorem PropsP.setP {l : List PProp} (h : PropsP l) {name : ByteArray} {v : PVal} (hn : NameOk name) (hv : GoodV v ∨ v.kind = 0) : PropsP (setP l name v) := by
  unfold Hg.setP
  split
  · exact h.fil name
  · refine (h.fil name).ins (x := ⟨name, v⟩) (fun p hp => fil_ne p hp) ⟨hn, ?_⟩
    rcases hv with hv | hv
    · exact hv
    · exact absurd hv ‹_›

/-- a good graph in plain words, beside its structure -/
structure GoodX (G : PGraph) : Prop where
  nodes : ∀ x ∈ G.nodes, NameOk x.typ ∧ PropsOk x.props
  edges : ∀ x ∈ G.edges, hasN G x.id = false ∧ hasN G x.from_ = true ∧ hasN G x.to_ = true ∧ NameOk x.typ ∧ PropsOk x.props
theorem goodNs_of {next : Int} : ∀ {l : List PNode} {last : Int}, (l.map (·.id)).Pairwise (· < ·) → (∀ x ∈ l, last < x.id ∧ x.id < next ∧ NameOk x.typ ∧ PropsOk x.props) → goodNs next last l = true
  | [], _, _, _ => rfl
  | x :: t, last, hp, h => by
    rw [List.map_cons, List.pairwise_cons] at hp
    have hx := h x (by simp)
    unfold goodNs
    rw [decide_eq_false (show ¬ x.id ≤ last by omega), decide_eq_false (show ¬ next ≤ x.id by omega), decide_eq_true hx.2.2.1, propsB_true hx.2.2.2,
      goodNs_of hp.2 (fun y hy => ⟨hp.1 y.id (List.mem_map_of_mem hy), (h y (by simp [hy])).2⟩)]
    rfl
theorem goodEs_of {G : PGraph} : ∀ {l : List PEdge} {last : Int}, (l.map (·.id)).Pairwise (· < ·) → (∀ x ∈ l, last < x.id ∧ x.id < G.next ∧ hasN G x.id = false ∧ hasN G x.from_ = true ∧ hasN G x.to_ = true ∧ NameOk x.typ ∧ PropsOk x.props) → goodEs G last l = true
  | [], _, _, _ => rfl
  | x :: t, last, hp, h => by
    rw [List.map_cons, List.pairwise_cons] at hp
    have hx := h x (by simp)
    unfold goodEs
    rw [decide_eq_false (show ¬ x.id ≤ last by omega), decide_eq_false (show ¬ G.next ≤ x.id by omega), hx.2.2.1, hx.2.2.2.1, hx.2.2.2.2.1, decide_eq_true hx.2.2.2.2.2.1, propsB_true hx.2.2.2.2.2.2,
      goodEs_of hp.2 (fun y hy => ⟨hp.1 y.id (List.mem_map_of_mem hy), (h y (by simp [hy])).2⟩)]
    rfl
theorem goodG_iff {G : PGraph} : goodG G = true ↔ GInv G ∧ GoodX G := by
  constructor
  · intro h
    refine ⟨goodG_inv h, ?_⟩
    unfold goodG at h
    simp only [Bool.and_eq_true] at h
    exact ⟨fun x hx => ((goodNs_all h.2.1).2 x hx).2.2, fun x hx => ((goodEs_all h.2.2).2 x hx).2.2⟩
  · rintro ⟨hi, hx⟩
    have h1 := hi.next0
    have h2 := hi.next1
    have h3 := hi.items
    unfold goodG sizeOkG
    rw [decide_eq_false (show ¬ G.next < 1 by omega), decide_eq_false (show ¬ 4611686018427387904 < G.next by omega), decide_eq_false (show ¬ 1024 < G.nodes.length + G.edges.length by omega),
      goodNs_of hi.nodes (fun x hx' => ⟨by have := (hi.nodesB x hx').1; omega, (hi.nodesB x hx').2.1, hx.nodes x hx'⟩),
      goodEs_of hi.edges (fun x hx' => ⟨by have := (hi.edgesB x hx').1; omega, (hi.edgesB x hx').2.1, hx.edges x hx'⟩)]
    rfl
def CatNames (c : PCat) : Prop := (∀ s ∈ c.nodes, NameOk s) ∧ ∀ s ∈ c.edges, NameOk s
theorem propsOk_nil : PropsOk [] := propsOk_iff.2 ⟨by simp, by simp, by simp⟩
theorem memS_mem {s : ByteArray} {l : List ByteArray} (h : memS s l = true) : s ∈ l := by
  obtain ⟨x, hx, hxs⟩ := List.any_eq_true.1 h
  have : x = s := by simpa using hxs
  rwa [this] at hx
theorem hasN_false {G : PGraph} {id : Int} (h : ∀ x ∈ G.nodes, x.id ≠ id) : hasN G id = false := List.any_eq_false.2 (fun x hx => by simpa using h x hx)
theorem hasN_true {G : PGraph} {id : Int} : hasN G id = true ↔ ∃ x ∈ G.nodes, x.id = id := by
  unfold hasN
  rw [List.any_eq_true]
  simp
theorem goodX_do {c : PCat} {o : POp} {G : PGraph} (hc : CatNames c) (hi : GInv G) (h : GoodX G) (hm : mayG c o G = 0) : GoodX (doG o G) := by
  unfold mayG at hm
  unfold Hg.doG
  by_cases h1 : o.kind = 1
  · rw [if_pos h1] at hm ⊢
    split at hm
    · simp at hm
    · rename_i ht
      have ht' : memS o.typ c.nodes = true := by simpa using ht
      have hhas : ∀ id, hasN (addNodeG o G) id = (hasN G id || decide (G.next = id)) := fun id => by simp [hasN, addNodeG]
      refine ⟨fun x hx => ?_, fun x hx => ?_⟩
      · rcases List.mem_append.1 hx with hx | hx
        · exact h.nodes x hx
        · simp at hx; subst hx; exact ⟨hc.1 _ (memS_mem ht'), propsOk_nil⟩
      · have he := h.edges x hx
        have hb := hi.edgesB x hx
        rw [hhas, hhas, hhas, he.1, he.2.1, he.2.2.1]
        exact ⟨by simp; omega, rfl, rfl, he.2.2.2⟩
  rw [if_neg h1] at hm ⊢
  by_cases h2 : o.kind = 2
  · rw [if_pos h2]
    refine ⟨fun x hx => h.nodes x (List.mem_filter.1 hx).1, fun x hx => ?_⟩
    obtain ⟨hx1, hx2⟩ := List.mem_filter.1 hx
    have he := h.edges x hx1
    have hat : x.from_ ≠ o.id ∧ x.to_ ≠ o.id := by
      unfold atE at hx2
      simpa using hx2
    have hkeep : ∀ id, id ≠ o.id → hasN G id = true → hasN (dropNodeG o G) id = true := fun id hid hh => by
      obtain ⟨y, hy, hyi⟩ := hasN_true.1 hh
      exact hasN_true.2 ⟨y, List.mem_filter.2 ⟨hy, by simp; omega⟩, hyi⟩
    refine ⟨hasN_false (fun y hy => ?_), hkeep _ hat.1 he.2.1, hkeep _ hat.2 he.2.2.1, he.2.2.2⟩
    have hy1 := (List.mem_filter.1 hy).1
    intro e
    have := hasN_true.2 ⟨y, hy1, e⟩
    rw [he.1] at this
    cases this
  rw [if_neg h2] at hm ⊢
  by_cases h3 : o.kind = 3
  · rw [if_pos h3] at hm ⊢
    split at hm
    · simp at hm
    · rename_i ht
      have ht' : memS o.typ c.edges = true := by simpa using ht
      split at hm
      · simp at hm
      · rename_i hft
        have hf : hasN G o.from_ = true ∧ hasN G o.to_ = true := by
          simp only [not_or] at hft
          exact ⟨by simpa using hft.1, by simpa using hft.2⟩
        refine ⟨h.nodes, fun x hx => ?_⟩
        show hasN G x.id = false ∧ hasN G x.from_ = true ∧ hasN G x.to_ = true ∧ _
        rcases List.mem_append.1 hx with hx | hx
        · exact h.edges x hx
        · simp at hx; subst hx
          exact ⟨hasN_false (fun y hy => by have := (hi.nodesB y hy).2.1; simp; omega), hf.1, hf.2, hc.2 _ (memS_mem ht'), propsOk_nil⟩
  rw [if_neg h3] at hm ⊢
  by_cases h4 : o.kind = 4
  · rw [if_pos h4]
    exact ⟨h.nodes, fun x hx => h.edges x (List.mem_filter.1 hx).1⟩
  rw [if_neg h4] at hm ⊢
  by_cases h5 : o.kind = 5
  · rw [if_pos h5] at hm ⊢
    split at hm
    · simp at hm
    · rename_i hnv
      simp only [not_or, not_and, Classical.not_not] at hnv
      have hv : GoodV o.v ∨ o.v.kind = 0 := by
        by_cases hg : GoodV o.v
        · exact .inl hg
        · exact .inr (hnv.2 hg).1
      split at hm
      · simp at hm
      · rename_i ps hps
        split at hm
        · simp at hm
        · rename_i h8
          have hset : PropsOk ps → PropsOk (setP ps o.name o.v) := fun hp => propsOk_iff.2 ⟨by omega, (propsOk_iff.1 hp).2.setP hnv.1 hv⟩
          unfold findP at hps
          unfold setPropG
          split
          · rename_i hn
            obtain ⟨y, hy, hyi⟩ := hasN_true.1 hn
            obtain ⟨i, hyi'⟩ := List.getElem?_of_mem hy
            rw [find_idx (fun x : PNode => x.id) hi.nodes hyi' hyi] at hps
            simp only [Option.some.injEq] at hps
            have hids : ∀ id, hasN (⟨G.nodes.map fun x => if x.id = o.id then ⟨x.id, x.typ, setP x.props o.name o.v⟩ else x, G.edges, G.next⟩ : PGraph) id = hasN G id := fun id => by
              unfold hasN
              show ((G.nodes.map fun x => if x.id = o.id then (⟨x.id, x.typ, setP x.props o.name o.v⟩ : PNode) else x).any _) = _
              rw [List.any_map]
              congr 1
              funext x
              simp only [Function.comp]
              split <;> rfl
            refine ⟨fun x hx => ?_, fun x hx => ?_⟩
            · obtain ⟨z, hz, rfl⟩ := List.mem_map.1 hx
              have hzn := h.nodes z hz
              split
              · rename_i hzi
                obtain ⟨j, hj⟩ := List.getElem?_of_mem hz
                have e1 := find_idx (fun x : PNode => x.id) hi.nodes hj hzi
                rw [find_idx (fun x : PNode => x.id) hi.nodes hyi' hyi] at e1
                simp only [Option.some.injEq] at e1
                subst e1
                exact ⟨hzn.1, by rw [hps]; exact hset (by rw [← hps]; exact hzn.2)⟩
              · exact hzn
            · rw [hids, hids, hids]; exact h.edges x hx
          · rename_i hn
            have hn' : hasN G o.id = false := by simpa using hn
            rw [find_none (fun x : PNode => x.id) hn'] at hps
            cases hf : G.edges.find? fun x => decide (x.id = o.id) with
            | none => rw [hf] at hps; simp at hps
            | some y =>
              rw [hf] at hps
              simp only [Option.some.injEq] at hps
              refine ⟨h.nodes, fun x hx => ?_⟩
              show hasN G x.id = false ∧ hasN G x.from_ = true ∧ hasN G x.to_ = true ∧ _
              obtain ⟨z, hz, rfl⟩ := List.mem_map.1 hx
              have hzn := h.edges z hz
              split
              · rename_i hzi
                obtain ⟨j, hj⟩ := List.getElem?_of_mem hz
                have e1 := find_idx (fun x : PEdge => x.id) hi.edges hj hzi
                rw [hf] at e1
                simp only [Option.some.injEq] at e1
                subst e1
                exact ⟨hzn.1, hzn.2.1, hzn.2.2.1, hzn.2.2.2.1, by rw [hps]; exact hset (by rw [← hps]; exact hzn.2.2.2.2)⟩
              · exact hzn
  rw [if_neg h5] at hm
  simp at hm
theorem goodG_step {c : PCat} {o : POp} {G : PGraph} (hc : CatNames c) (h : goodG G = true) : goodG (stepG c o G) = true := by
  obtain ⟨hi, hx⟩ := goodG_iff.1 h
  refine goodG_iff.2 ⟨hi.stepG, ?_⟩
  unfold stepG
  split
  · exact goodX_do hc hi hx ‹_›
  · exact hx
theorem goodG_empty : goodG PGraph.empty = true := goodG_iff.2 ⟨GInv.empty, by simp [PGraph.empty], by simp [PGraph.empty]⟩
theorem typesC_names : CatNames typesC := ⟨by decide, by decide⟩
end Go.Hg

namespace Go.Hg
/-- the graph that Made makes -/
def madeK (k : Nat) (l : List POp) : PGraph := (l.take k).foldl (fun G o => stepG typesC o G) PGraph.empty
def madeG (l : List POp) : PGraph := madeK 60 l
theorem madeK_zero (l : List POp) : madeK 0 l = PGraph.empty := rfl
theorem madeK_succ {l : List POp} {k : Nat} (hk : k < l.length) : madeK (k + 1) l = stepG typesC l[k] (madeK k l) := by
  unfold madeK
  rw [List.take_succ_eq_append_getElem hk, List.foldl_append]
  rfl
theorem madeK_full {l : List POp} {k : Nat} (h : l.length ≤ k ∨ 60 ≤ k) (hk : k ≤ 60) : madeK k l = madeG l := by
  unfold madeG madeK
  rcases h with h | h
  · rw [List.take_of_length_le h, List.take_of_length_le (by omega)]
  · have : k = 60 := by omega
    rw [this]
theorem madeK_inv (l : List POp) (k : Nat) : GInv (madeK k l) := by
  unfold madeK
  generalize l.take k = m
  have key : ∀ (m : List POp) (G : PGraph), GInv G → GInv (m.foldl (fun G o => stepG typesC o G) G) := by
    intro m
    induction m with
    | nil => exact fun G h => h
    | cons a t ih => exact fun G h => ih _ h.stepG
  exact key m _ GInv.empty
theorem madeK_good (l : List POp) (k : Nat) : goodG (madeK k l) = true := by
  unfold madeK
  generalize l.take k = m
  have key : ∀ (m : List POp) (G : PGraph), goodG G = true → goodG (m.foldl (fun G o => stepG typesC o G) G) = true := by
    intro m
    induction m with
    | nil => exact fun G h => h
    | cons a t ih => exact fun G h => ih _ (goodG_step typesC_names h)
  exact key m _ goodG_empty
def wa : POp := ⟨1, 0, sMan, 0, 0, ByteArray.empty, ⟨0, 0, ByteArray.empty⟩, false⟩
def wb (x y : Int) : POp := ⟨3, 0, sKnows, x, y, ByteArray.empty, ⟨0, 0, ByteArray.empty⟩, false⟩
def wakeOps : List POp := [wa, wa, wa, wb 1 2, wb 2 3]
def wakeG : PGraph := ⟨[⟨1, sMan, []⟩, ⟨2, sMan, []⟩, ⟨3, sMan, []⟩], [⟨4, sKnows, 1, 2, []⟩, ⟨5, sKnows, 2, 3, []⟩], 6⟩
theorem wake_fair : fairOps wakeOps = true := by decide
theorem wake_made : madeG wakeOps = wakeG := by decide
theorem wake_step {typ : ByteArray} (ht : typ = sKnows ∨ typ = ByteArray.empty) (x y : Int) : StepE wakeG.edges typ x y ↔ (x = 1 ∧ y = 2) ∨ (x = 2 ∧ y = 3) := by
  have hf : ∀ e ∈ wakeG.edges, fitE typ e = true := by
    intro e he
    simp only [wakeG, List.mem_cons, List.not_mem_nil, or_false] at he
    rcases ht with rfl | rfl <;> rcases he with rfl | rfl <;> simp [fitE]
  constructor
  · rintro ⟨e, he, -, h3, h4⟩
    simp only [wakeG, List.mem_cons, List.not_mem_nil, or_false] at he
    rcases he with rfl | rfl
    · exact .inl ⟨h3.symm, h4.symm⟩
    · exact .inr ⟨h3.symm, h4.symm⟩
  · rintro (⟨rfl, rfl⟩ | ⟨rfl, rfl⟩)
    · exact ⟨⟨4, sKnows, 1, 2, []⟩, by simp [wakeG], hf _ (by simp [wakeG]), rfl, rfl⟩
    · exact ⟨⟨5, sKnows, 2, 3, []⟩, by simp [wakeG], hf _ (by simp [wakeG]), rfl, rfl⟩
theorem wake_rch : RSet [2, 3] (Rch wakeG.edges sKnows 2 1) := by
  refine ⟨by simp, fun y => ?_⟩
  simp only [Rch, wake_step (.inl rfl), List.mem_cons, List.not_mem_nil, or_false]
  constructor
  · rintro (rfl | rfl)
    · exact .inl (.inl ⟨trivial, rfl⟩)
    · exact .inr ⟨2, .inl (.inl ⟨trivial, rfl⟩), .inr ⟨rfl, rfl⟩⟩
  · rintro ((⟨-, rfl⟩ | ⟨h, -⟩) | ⟨z, -, (⟨-, rfl⟩ | ⟨-, rfl⟩)⟩)
    · exact .inl rfl
    · omega
    · exact .inl rfl
    · exact .inr rfl
theorem wake_path : PathS wakeG.edges ByteArray.empty 1 3 [4, 5] := by
  have hs := fun x y => wake_step (typ := ByteArray.empty) (.inr rfl) x y
  have d1 : Dst wakeG.edges ByteArray.empty 3 1 2 := by
    refine ⟨⟨3, (hs 2 3).2 (.inr ⟨rfl, rfl⟩), rfl⟩, fun m hm hw => ?_⟩
    have : m = 0 := by omega
    subst this
    exact absurd hw (by simp [Wlk])
  have d2 : Dst wakeG.edges ByteArray.empty 3 2 1 := by
    refine ⟨⟨2, (hs 1 2).2 (.inl ⟨rfl, rfl⟩), d1.1⟩, fun m hm hw => ?_⟩
    match m, hm with
    | 0, _ => exact absurd hw (by simp [Wlk])
    | 1, _ =>
      obtain ⟨z, h1, h2⟩ := hw
      rw [hs] at h1
      simp only [Wlk] at h2
      omega
  refine .inr (.inr ⟨by omega, 2, d2, ?_⟩)
  refine ⟨[], ⟨4, sKnows, 1, 2, []⟩, [], [5], by decide, by simp, d1, rfl, ?_⟩
  exact ⟨[], ⟨5, sKnows, 2, 3, []⟩, [], [], by decide, by simp, Dst.zero.2 rfl, rfl, rfl⟩
end Go.Hg

namespace Go.Hg
open Go.RowKit Go.Proofs

/-- Do at a graph that was made behind W0 -/
theorem doOwn (SC : Nat → Prop) (B : Nat) (G : PGraph) (nv ev rv iv : Value) (c : PCat) (o : POp) (W0 w : World) (hg : Grow W0 w) (h : GraphOk 98 (fun b => W0.heap.size ≤ b) w B G) (hG : GInv G) (hc : CatR SC w nv ev rv iv c) :
    Calls Tryz.prog 29 #[.pointer (some ⟨B, 0, none⟩), c.arg nv ev rv iv, o.args] w fun e w' =>
      e = .returned (.tuple #[.int .i64 (if mayG c o G = 0 then idG o G else 0), .int .i64 (mayG c o G)]) ∧ GraphOk 98 (fun b => W0.heap.size ≤ b) w' B (stepG c o G) ∧ Grow W0 w' :=
  (graphDo _ SC B G nv ev rv iv c o w h hG hc).mono fun _ _ ⟨h1, h2, h3⟩ => ⟨h1, h2.sub (fun _ hb => hb.elim id (fun h => Nat.le_trans hg.size h)), hg.modd h3 (fun _ hb => hb)⟩

def sName : ByteArray := ⟨#[110, 97, 109, 101]⟩
def sA : ByteArray := ⟨#[97]⟩
def wo1 : POp := ⟨1, 0, sCity, 0, 0, ByteArray.empty, ⟨0, 0, ByteArray.empty⟩, false⟩
def wo2 : POp := ⟨3, 0, sRoad, 1, 1, ByteArray.empty, ⟨0, 0, ByteArray.empty⟩, false⟩
def wo3 : POp := ⟨2, 1, ByteArray.empty, 0, 0, ByteArray.empty, ⟨0, 0, ByteArray.empty⟩, false⟩
def wo4 : POp := ⟨5, 1, ByteArray.empty, 0, 0, sName, ⟨3, 0, sA⟩, false⟩
def wG1 : PGraph := ⟨[⟨1, sCity, []⟩], [], 2⟩
def wG2 : PGraph := ⟨[⟨1, sCity, []⟩], [⟨2, sRoad, 1, 1, []⟩], 3⟩
def wG4 : PGraph := ⟨[⟨1, sCity, [⟨sName, ⟨3, 0, sA⟩⟩]⟩], [⟨2, sRoad, 1, 1, []⟩], 3⟩
theorem wm1 : mayG typesC wo1 PGraph.empty = 0 := by decide
theorem wg1 : stepG typesC wo1 PGraph.empty = wG1 := by decide
theorem wm2 : mayG typesC wo2 wG1 = 0 := by decide
theorem wg2 : stepG typesC wo2 wG1 = wG2 := by decide
theorem wm3 : mayG typesC wo3 wG2 = 160 := by decide
theorem wg3 : stepG typesC wo3 wG2 = wG2 := by decide
theorem wm4 : mayG typesC wo4 wG2 = 0 := by decide
theorem wg4 : stepG typesC wo4 wG2 = wG4 := by decide
theorem wi1 : GInv wG1 := wg1 ▸ GInv.empty.stepG
theorem wi2 : GInv wG2 := wg2 ▸ wi1.stepG
theorem wi4 : GInv wG4 := wg4 ▸ wi2.stepG

end Go.Hg

namespace Go.Hg
open Go.RowKit Go.Proofs

/-- what Made tells -/
def MadePost (l : List POp) (w : World) (e : Ending) (w' : World) : Prop :=
  (fairOps l = false ∧ e = .returned (.tuple #[.pointer none, .pointer none, .bool false]) ∧ Grow w w') ∨
  (fairOps l = true ∧ ∃ (B1 B2 : Nat), e = .returned (.tuple #[.pointer (some ⟨B1, 0, none⟩), .pointer (some ⟨B2, 0, none⟩), .bool true]) ∧ Pair 98 89 w w' B1 B2 (madeG l) (madeG l))

set_option maxRecDepth 100000 in
set_option maxHeartbeats 8000000 in
theorem lawMade (S : Nat → Prop) (v : Value) (l : List POp) (w : World) (hl : OpsR S w v l) : Calls Tryz.prog 10 #[v] w (MadePost l w) := by
  have HL := Lib.hid hl
  obtain ⟨aa, ca, rfl, hal, hac, hA⟩ := SlR.open hl
  clear hl
  unfold maxLen at hac
  have HA := Lib.hid hA; clear hA
  go_enter Tryz.func10, Tryz.ntmps10
  go_wp2_with fail
  refine (graphNew _).mono ?_
  rintro e w3 ⟨B1, rfl, hgr, hg3⟩
  have HGR3 := Lib.hid hgr; have HG3 := Lib.hid hg3
  clear hgr hg3
  go_wp2_with fail
  refine (refNew _).mono ?_
  rintro e w4 ⟨B2, rfl, hgr, hg4⟩
  have HPR := Lib.hid (Pair.make HGR3.out HG3.out hgr hg4)
  have HG4 := Lib.hid (HG3.out.step hg4)
  clear hgr hg4 HGR3 HG3
  go_wp2_with fail
  refine (lawFair S _ l _ (HL.out.growS HG4.out)).mono ?_
  rintro e w2 ⟨rfl, hg2⟩
  have HP2 := Lib.hid (HPR.out.grow hg2)
  have HG2 := Lib.hid (HG4.out.step hg2)
  clear hg2 HPR HG4
  cases hf : fairOps l
  · have HF := Lib.hid hf
    clear hf
    go_wp2
    go_ret3
    exact .inl ⟨HF.out, rfl, HG2.out⟩
  have HF := Lib.hid hf
  clear hf
  go_wp2
  go_loopg [7] (l.length + 1) (fun g i wr => ∃ (k : Nat), k ≤ l.length ∧ k ≤ 60 ∧ g = l.length + 1 - k ∧ i = .int .i64 k ∧ Pair 98 89 w wr B1 B2 (madeK k l) (madeK k l))
  case atStart => exact ⟨0, by omega, by omega, by omega, rfl, HP2.out⟩
  case round =>
    obtain ⟨k, hk, hk60, rfl, rfl, hpr⟩ := hrel
    have HP := Lib.hid hpr
    clear hpr HP2
    have HGK := Lib.hid HP.out.grown
    by_cases hkl : k < l.length
    · by_cases hk6 : k < 60
      · have HMK := Lib.hid (madeK_succ hkl)
        have HI := Lib.hid (madeK_inv l k)
        generalize madeK k l = G at *
        obtain ⟨ba, oa, ra, rfl, hSa, hba, hRa, hca⟩ := HA.out k l[k] (List.getElem?_eq_getElem hkl)
        have HS := Lib.hid (show ∀ w', Grow w w' → (w'.cell? ⟨ba, oa + k * 10, none⟩ = some (.int .i64 l[k].kind) ∧ w'.cell? ⟨ba, oa + k * 10 + 1, none⟩ = some (.int .i64 l[k].id) ∧ w'.cell? ⟨ba, oa + k * 10 + 2, none⟩ = some (.string l[k].typ) ∧ w'.cell? ⟨ba, oa + k * 10 + 3, none⟩ = some (.int .i64 l[k].from_) ∧ w'.cell? ⟨ba, oa + k * 10 + 4, none⟩ = some (.int .i64 l[k].to_) ∧ w'.cell? ⟨ba, oa + k * 10 + 5, none⟩ = some (.string l[k].name) ∧ w'.cell? ⟨ba, oa + k * 10 + 6, none⟩ = some (.int .i64 l[k].v.kind) ∧ w'.cell? ⟨ba, oa + k * 10 + 7, none⟩ = some (.int .i64 l[k].v.n) ∧ w'.cell? ⟨ba, oa + k * 10 + 8, none⟩ = some (.string l[k].v.s) ∧ w'.cell? ⟨ba, oa + k * 10 + 9, none⟩ = some (.bool l[k].cascade)) from fun w' hg' => (opCells hRa hba hg' hca).2)
        clear hca hRa hSa hba
        generalize l[k] = o at *
        have HD := Lib.hid (show Grow w wr.drew from HP.out.grown.drewd)
        have HPD := Lib.hid (HP.out.grow ((Grow.rfl' wr).drewd))
        go_wp2_with fail
        go_region_held3 (fun w' => w'.cell? ⟨ba, oa + k * 10, none⟩ = some (.int .i64 o.kind) ∧ w'.cell? ⟨ba, oa + k * 10 + 1, none⟩ = some (.int .i64 o.id) ∧ w'.cell? ⟨ba, oa + k * 10 + 2, none⟩ = some (.string o.typ) ∧ w'.cell? ⟨ba, oa + k * 10 + 3, none⟩ = some (.int .i64 o.from_) ∧ w'.cell? ⟨ba, oa + k * 10 + 4, none⟩ = some (.int .i64 o.to_) ∧ w'.cell? ⟨ba, oa + k * 10 + 5, none⟩ = some (.string o.name) ∧ w'.cell? ⟨ba, oa + k * 10 + 6, none⟩ = some (.int .i64 o.v.kind) ∧ w'.cell? ⟨ba, oa + k * 10 + 7, none⟩ = some (.int .i64 o.v.n) ∧ w'.cell? ⟨ba, oa + k * 10 + 8, none⟩ = some (.string o.v.s) ∧ w'.cell? ⟨ba, oa + k * 10 + 9, none⟩ = some (.bool o.cascade)) (first | exact HS.out _ HD.out | exact HS.out _ HT3.out | exact HS.out _ HP4.out.grown) (first | (go_at_call 30; refine (lawTypes _).mono ?_; rintro e wt3 ⟨nv, ev, rfl, hc, hg3⟩; have HC := Lib.hid hc; have HT3 := Lib.hid (HD.out.step hg3); have HTG3 := Lib.hid hg3; obtain ⟨na, nc, ea, ec, ra, rc, ia, ic, rfl, rfl, -, -⟩ := hc.slices; clear hc hg3) | (go_at_call 29; refine (pairDo1 _ B1 B2 G G _ _ _ _ typesC o w _ (HPD.out.grow HTG3.out) HI.out HC.out).mono ?_; rintro e wd4 ⟨rfl, hp4⟩; have HP4 := Lib.hid hp4; clear hp4; generalize (if mayG typesC o G = 0 then idG o G else 0) = rid; generalize mayG typesC o G = rer))
        have HD5 := Lib.hid (show Grow w wd4.drew from HP4.out.grown.drewd)
        have HPD5 := Lib.hid (HP4.out.grow ((Grow.rfl' wd4).drewd))
        go_wp2_with fail
        go_region_held3 (fun w' => w'.cell? ⟨ba, oa + k * 10, none⟩ = some (.int .i64 o.kind) ∧ w'.cell? ⟨ba, oa + k * 10 + 1, none⟩ = some (.int .i64 o.id) ∧ w'.cell? ⟨ba, oa + k * 10 + 2, none⟩ = some (.string o.typ) ∧ w'.cell? ⟨ba, oa + k * 10 + 3, none⟩ = some (.int .i64 o.from_) ∧ w'.cell? ⟨ba, oa + k * 10 + 4, none⟩ = some (.int .i64 o.to_) ∧ w'.cell? ⟨ba, oa + k * 10 + 5, none⟩ = some (.string o.name) ∧ w'.cell? ⟨ba, oa + k * 10 + 6, none⟩ = some (.int .i64 o.v.kind) ∧ w'.cell? ⟨ba, oa + k * 10 + 7, none⟩ = some (.int .i64 o.v.n) ∧ w'.cell? ⟨ba, oa + k * 10 + 8, none⟩ = some (.string o.v.s) ∧ w'.cell? ⟨ba, oa + k * 10 + 9, none⟩ = some (.bool o.cascade)) (first | exact HS.out _ HD5.out | exact HS.out _ HT5.out | exact HS.out _ HP6.out.grown) (first | (go_at_call 30; refine (lawTypes _).mono ?_; rintro e wt5 ⟨nv, ev, rfl, hc, hg3⟩; have HC := Lib.hid hc; have HT5 := Lib.hid (HD5.out.step hg3); have HTG5 := Lib.hid hg3; obtain ⟨na, nc, ea, ec, ra, rc, ia, ic, rfl, rfl, -, -⟩ := hc.slices; clear hc hg3) | (go_at_call 31; refine (pairDo2 _ B1 B2 (stepG typesC o G) G _ _ _ _ typesC o w _ (HPD5.out.grow HTG5.out) HI.out HC.out).mono ?_; rintro e wd6 ⟨rfl, hp6⟩; have HP6 := Lib.hid hp6; clear hp6; generalize (if mayG typesC o G = 0 then idG o G else 0) = rid2; generalize mayG typesC o G = rer2))
        go_wp2_with fail
        go_roundg (l.length + 1 - (k + 1))
        case measure => omega
        case rel => exact ⟨k + 1, by omega, by omega, rfl, by go_num, by rw [HMK.out]; exact HP6.out⟩
      · have HM := Lib.hid (madeK_full (l := l) (k := k) (.inr (by omega)) hk60)
        go_wp2
        go_ret3
        exact .inr ⟨HF.out, B1, B2, rfl, HM.out ▸ HP.out⟩
    · have HM := Lib.hid (madeK_full (l := l) (k := k) (.inl (by omega)) hk60)
      go_wp2
      go_ret3
      exact .inr ⟨HF.out, B1, B2, rfl, HM.out ▸ HP.out⟩
end Go.Hg

namespace Go.Hg
open Go.RowKit Go.Proofs

set_option maxRecDepth 100000 in
set_option maxHeartbeats 1000000 in
theorem keepLongsEq (Sa Sb : Nat → Prop) (va vb : Value) (l : List Int) (w : World) (ha : IdsR Sa w va l) (hb : IdsR Sb w vb l) :
    Calls Tryz.prog 11 #[va, vb] w fun e w' => e = .returned (.bool true) ∧ Grow w w' := by
  obtain ⟨aa, ca, rfl, hal, hac, hA⟩ := SlR.open ha
  obtain ⟨ab, cb, rfl, hbl, hbc, hB⟩ := SlR.open hb
  clear ha hb
  unfold maxLen at hac hbc
  have HA := Lib.hid hA; have HB := Lib.hid hB; clear hA hB
  go_enter Tryz.func11, Tryz.ntmps11
  go_wp2
  go_loopg [5] l.length (fun g i wr => ∃ k : Nat, k ≤ l.length ∧ g = l.length - k ∧ i = .int .i64 k ∧ Grow w wr)
  case atStart => exact ⟨0, by omega, by omega, rfl, Grow.rfl' w⟩
  case round =>
    obtain ⟨k, hk, rfl, rfl, hgr⟩ := hrel
    have HGR := Lib.hid hgr
    by_cases hkl : k < l.length
    · obtain ⟨ba, oa, ra, rfl, hSa, hba, hRa, hca⟩ := HA.out k l[k] (List.getElem?_eq_getElem hkl)
      obtain ⟨bb, ob, rb, rfl, hSb, hbb, hRb, hcb⟩ := HB.out k l[k] (List.getElem?_eq_getElem hkl)
      have ha2 : ba < wr.heap.size := Nat.lt_of_lt_of_le hba hgr.size
      have hb2 : bb < wr.heap.size := Nat.lt_of_lt_of_le hbb hgr.size
      have hca0 := (hgr.cell (p := ⟨ba, oa + k * 1 + 0, none⟩) hba).trans (hca 0 (.int .i64 l[k]) (by rw [show ra = [.int .i64 l[k]] from hRa]; rfl))
      have hcb0 := (hgr.cell (p := ⟨bb, ob + k * 1 + 0, none⟩) hbb).trans (hcb 0 (.int .i64 l[k]) (by rw [show rb = [.int .i64 l[k]] from hRb]; rfl))
      rw [Nat.mul_one, Nat.add_zero] at hca0 hcb0
      clear hca hcb hRa hRb hSa hSb hba hbb hgr
      generalize l[k] = x at *
      go_wp2_with fail
      refine wp_region_grow (by kernel_rfl) (by kernel_rfl) ?_
      repeat (go_big_quiet_step (fail))
      refine wpQuiet_nil ?_
      intro w2 hw2
      go_wp2_with fail
      go_roundg (l.length - (k + 1))
      case measure => omega
      case rel => exact ⟨k + 1, by omega, rfl, by go_num, HGR.out.step hw2⟩
    · clear hgr
      go_wp2
      go_ret
      exact ⟨rfl, HGR.out⟩

abbrev PRule.args (x : PRule) : Value := .agg #[.int .i64 x.id, .int .i64 x.kind, .string x.typ, .string x.name, .string x.from_, .string x.to_, .int .i64 x.n, .int .i64 x.state]
theorem ruleCells {w wr : World} {x : PRule} {r : List Value} {b o : Nat} (h : RRule x r) (hb : b < w.heap.size) (g : Grow w wr) (hc : ∀ (j : Nat) c, r[j]? = some c → w.cell? ⟨b, o + j, none⟩ = some c) :
    b < wr.heap.size ∧ wr.cell? ⟨b, o, none⟩ = some (.int .i64 x.id) ∧ wr.cell? ⟨b, o + 1, none⟩ = some (.int .i64 x.kind) ∧ wr.cell? ⟨b, o + 2, none⟩ = some (.string x.typ) ∧ wr.cell? ⟨b, o + 3, none⟩ = some (.string x.name) ∧ wr.cell? ⟨b, o + 4, none⟩ = some (.string x.from_) ∧ wr.cell? ⟨b, o + 5, none⟩ = some (.string x.to_) ∧ wr.cell? ⟨b, o + 6, none⟩ = some (.int .i64 x.n) ∧ wr.cell? ⟨b, o + 7, none⟩ = some (.int .i64 x.state) := by
  unfold RRule at h
  subst h
  have e : ∀ o', wr.cell? ⟨b, o', none⟩ = w.cell? ⟨b, o', none⟩ := fun o' => World.cell?_of_block (w := w) (g.heapEq hb)
  have hs := g.size
  refine ⟨by omega, ?_, ?_, ?_, ?_, ?_, ?_, ?_, ?_⟩ <;> rw [e]
  · exact hc 0 _ rfl
  · exact hc 1 _ rfl
  · exact hc 2 _ rfl
  · exact hc 3 _ rfl
  · exact hc 4 _ rfl
  · exact hc 5 _ rfl
  · exact hc 6 _ rfl
  · exact hc 7 _ rfl
theorem indexCells {w wr : World} {x : PIndex} {r : List Value} {b o : Nat} (h : RIndex x r) (hb : b < w.heap.size) (g : Grow w wr) (hc : ∀ (j : Nat) c, r[j]? = some c → w.cell? ⟨b, o + j, none⟩ = some c) :
    b < wr.heap.size ∧ wr.cell? ⟨b, o, none⟩ = some (.string x.typ) ∧ wr.cell? ⟨b, o + 1, none⟩ = some (.string x.name) := by
  unfold RIndex at h
  subst h
  have e : ∀ o', wr.cell? ⟨b, o', none⟩ = w.cell? ⟨b, o', none⟩ := fun o' => World.cell?_of_block (w := w) (g.heapEq hb)
  have hs := g.size
  refine ⟨by omega, ?_, ?_⟩ <;> rw [e]
  · exact hc 0 _ rfl
  · exact hc 1 _ rfl
theorem boxes2 (w : World) (nv ev rv iv nv' ev' rv' iv' : Value) (n n' : Int) (T : TypeId) : (∀ w', Grow ((w.alloc (.cells #[nv, ev, rv, iv, .int .i64 n] T)).alloc (.cells #[nv', ev', rv', iv', .int .i64 n'] T)) w' → w'.heap[w.heap.size]? = some (.cells #[nv, ev, rv, iv, .int .i64 n] T (0, 0))) ∧
    (∀ w', Grow ((w.alloc (.cells #[nv, ev, rv, iv, .int .i64 n] T)).alloc (.cells #[nv', ev', rv', iv', .int .i64 n'] T)) w' → w'.heap[w.heap.size + 1]? = some (.cells #[nv', ev', rv', iv', .int .i64 n'] T (0, 0))) := by
  refine ⟨fun w' hg => ?_, fun w' hg => ?_⟩
  · rw [hg.heapEq (by simp; omega), heap_alloc_old _ _ (by simp)]
    exact heap_alloc_new w _
  · rw [hg.heapEq (by simp)]
    have := heap_alloc_new (w.alloc (.cells #[nv, ev, rv, iv, .int .i64 n] T)) (.cells #[nv', ev', rv', iv', .int .i64 n'] T)
    rw [World.size_alloc] at this
    exact this

end Go.Hg

namespace Go.Hg
open Go.RowKit Go.Proofs

theorem edgesAt_of {S : Nat → Prop} {B : Nat} {G : PGraph} {w : World} (h : GraphRd 98 S w B G) (hi : GInv G) : EdgesAt (.pointer (some ⟨B, 0, none⟩)) G.edges w := fun w' g =>
  (graphEdges S B G w' (h.grow g) (by have := hi.items; omega) (fun x hx => by have := (hi.edgesB x hx).2.2; omega)).mono fun e w2 ⟨v, ob, he, ho, hob, hg⟩ =>
    ⟨v, he, SlR.sub (ho.toSl (S := fun b => w'.heap.size ≤ b) hob) (fun _ h => h) (fun x r _ hR => hR.sub (fun b hb => hb.1)), hg⟩
theorem edgesAt_nil (w : World) : EdgesAt (.pointer none) [] w := fun w' g => by
  refine (graphEdgesNil w').mono ?_
  rintro e w2 ⟨rfl, rfl⟩
  exact ⟨_, rfl, ⟨none, 0, [], rfl, Nat.le_refl _, by simp [maxLen], rfl, by simp, by simp⟩, Grow.rfl' _⟩
theorem wf64 {n : Int} (h1 : -9223372036854775808 ≤ n) (h2 : n ≤ 9223372036854775807) : (Lit.int .i64 n).wf = true := by
  simp only [Lit.wf, Bool.and_eq_true, decide_eq_true_eq]
  exact ⟨h1, h2⟩
theorem ends64 {G : PGraph} (hg : goodG G = true) : ∀ e ∈ G.edges, (Lit.int .i64 e.to_).wf = true := by
  obtain ⟨hi, hx⟩ := goodG_iff.1 hg
  intro e he
  have h1 := hasN_true.1 (hx.edges e he).2.2.1
  obtain ⟨n, hn, h⟩ := h1
  have h2 := hi.nodesB n hn
  have h3 := hi.next1
  rw [h] at h2
  exact wf64 (by omega) (by omega)
theorem idsCellL {S : Nat → Prop} {w : World} {v : Value} {l : List Int} (h : IdsR S w v l) : ∃ a cap, v = .slice a l.length cap ∧ l.length ≤ cap ∧ cap ≤ 9223372036854775807 ∧
    ∀ (k : Nat) x, l[k]? = some x → ∃ b off, a = some ⟨b, off, none⟩ ∧ b < w.heap.size ∧ S b ∧ w.cell? ⟨b, off + k, none⟩ = some (.int .i64 x) := by
  obtain ⟨a, cap, hv, h1, h2, hA⟩ := SlR.open h
  unfold maxLen at h2
  refine ⟨a, cap, hv, h1, h2, fun k x hx => ?_⟩
  obtain ⟨b, off, r, ha, hS, hb, rfl, hc⟩ := hA k x hx
  exact ⟨b, off, ha, hb, hS, by simpa using hc 0 _ rfl⟩
set_option maxHeartbeats 1000000 in
theorem law18In (S : Nat → Prop) (v : Value) (l : List Int) (n : Int) (w : World) (h : IdsR S w v l) : Calls Tryz.prog 16 #[v, .int .i64 n] w fun e w' => e = .returned (.bool (decide (n ∈ l))) ∧ w = w' := by
  obtain ⟨a, cap, rfl, h1, h2, hA⟩ := idsCellL h
  have HA := Lib.hid hA
  clear h hA
  go_enter Tryz.func16, Tryz.ntmps16
  go_wp2
  go_loopg [5] l.length (fun g i wr => ∃ k : Nat, k ≤ l.length ∧ g = l.length - k ∧ i = .int .i64 k ∧ n ∉ l.take k ∧ w = wr)
  case atStart => exact ⟨0, by omega, by omega, rfl, by simp, rfl⟩
  case round =>
    obtain ⟨k, hk, rfl, rfl, hn, rfl⟩ := hrel
    have HN := Lib.hid hn
    clear hn
    by_cases hkl : k < l.length
    · obtain ⟨b, off, rfl, hb, -, c0⟩ := HA.out k l[k] (List.getElem?_eq_getElem hkl)
      have HT := Lib.hid (show l.take (k + 1) = l.take k ++ [l[k]] from List.take_succ_eq_append_getElem hkl)
      have HM := Lib.hid (List.getElem_mem hkl)
      generalize l[k] = x at *
      by_cases hx : x = n
      · subst hx
        have HD := Lib.hid (decide_eq_true HM.out)
        go_wp2
        go_ret
        exact ⟨by rw [HD.out]; rfl, rfl⟩
      · have hxb : (x == n) = false := by simpa using hx
        have HX := Lib.hid hx
        clear hx
        go_wp2_with fail
        go_roundg (l.length - (k + 1))
        case measure => omega
        case rel => exact ⟨k + 1, by omega, rfl, by go_num, by rw [HT.out, List.mem_append, List.mem_singleton]; exact fun h => h.elim HN.out (fun e => HX.out e.symm), rfl⟩
    · have hkk : l.take k = l := List.take_of_length_le (by omega)
      rw [hkk] at HN
      have HD := Lib.hid (decide_eq_false HN.out)
      clear hkk
      go_wp2
      go_ret
      exact ⟨by rw [HD.out]; rfl, rfl⟩
set_option maxHeartbeats 1000000 in
theorem adjNear (gv : Value) (E : List PEdge) (id : Int) (typ : ByteArray) (w : World) (hE : EdgesAt gv E w) (hb : E.length ≤ 1024) (h64 : ∀ e ∈ E, (Lit.int .i64 e.to_).wf = true) :
    Calls Tryz.prog 17 #[gv, .int .i64 id, .string typ] w fun e w' => ∃ v L, e = .returned v ∧ RSet L (Rch E typ 1 id) ∧ IdsR (fun x => w.heap.size ≤ x) w' v L ∧ Grow w w' := by
  have HE := Lib.hid hE; have HB := Lib.hid hb; have H64 := Lib.hid h64
  clear hE hb h64
  go_enter Tryz.func17, Tryz.ntmps17
  go_wp2_with fail
  refine (adjReach gv E id typ 1 w HE.out HB.out H64.out (by decide)).mono ?_
  rintro e w2 ⟨v, L, rfl, hL, hI, hg⟩
  have HL := Lib.hid hL; have HI := Lib.hid hI; have HG := Lib.hid hg
  clear hL hI hg
  go_wp2
  go_ret
  exact ⟨v, L, rfl, HL.out, HI.out, HG.out⟩
def outN (E : List PEdge) (typ : ByteArray) (x : Int) : Nat := (outsE E typ x).length
def inN (E : List PEdge) (typ : ByteArray) (x : Int) : Nat := (insE E typ x).length
theorem someE_outs (E : List PEdge) (typ : ByteArray) (x : Int) : (someE E typ fun e => decide (e.from_ = x)).length = outN E typ x := by simp [someE, outN, outsE, fitE]
theorem someE_ins (E : List PEdge) (typ : ByteArray) (x : Int) : (someE E typ fun e => decide (e.to_ = x)).length = inN E typ x := by simp [someE, inN, insE, fitE]
set_option maxRecDepth 100000 in
set_option maxHeartbeats 1000000 in
theorem adjDegree (S : Nat → Prop) (B : Nat) (G : PGraph) (id : Int) (typ : ByteArray) (w : World) (h : GraphRd 98 S w B G) (hb : G.edges.length ≤ 1024) :
    Calls Tryz.prog 19 #[.pointer (some ⟨B, 0, none⟩), .int .i64 id, .string typ] w fun e w' => e = .returned (.tuple #[.int .i64 (outN G.edges typ id : Nat), .int .i64 (inN G.edges typ id : Nat)]) ∧ Grow w w' := by
  have HGR := Lib.hid h; have HB := Lib.hid (show G.edges.length ≤ 1099511627776 by omega)
  clear h hb
  go_enter Tryz.func19, Tryz.ntmps19
  go_wp2_with fail
  refine (graphOut S B G id typ w HGR.out HB.out).mono ?_
  rintro e w2 ⟨v, ob, rfl, ho, hob, hg⟩
  obtain ⟨oa, oc, rfl, -, -⟩ := ho.isSlice
  rw [someE_outs]
  have HG := Lib.hid hg
  clear ho hob hg
  go_wp2_with fail
  refine (graphIn S B G id typ _ (HGR.out.grow HG.out) HB.out).mono ?_
  rintro e w3 ⟨v, ob, rfl, ho, hob, hg⟩
  obtain ⟨ia, ic, rfl, -, -⟩ := ho.isSlice
  rw [someE_ins]
  have HG3 := Lib.hid (HG.out.step hg)
  clear ho hob hg
  go_wp2
  go_ret2
  exact ⟨rfl, HG3.out⟩
set_option maxRecDepth 100000 in
set_option maxHeartbeats 1000000 in
theorem adjDegreeNil (id : Int) (typ : ByteArray) (w : World) : Calls Tryz.prog 19 #[.pointer none, .int .i64 id, .string typ] w fun e w' => e = .returned (.tuple #[.int .i64 0, .int .i64 0]) ∧ Grow w w' := by
  go_enter Tryz.func19, Tryz.ntmps19
  go_wp2_with fail
  refine (graphOutNil id typ w).mono ?_
  rintro e w2 ⟨rfl, hg⟩
  have HG := Lib.hid hg
  clear hg
  go_wp2_with fail
  refine (graphInNil id typ _).mono ?_
  rintro e w3 ⟨rfl, hg⟩
  have HG3 := Lib.hid (HG.out.step hg)
  clear hg
  go_wp2
  go_ret2
  exact ⟨rfl, HG3.out⟩
theorem tmod60 (k : Int) : -60 < k.tmod 60 ∧ k.tmod 60 < 60 := by
  refine ⟨?_, Int.tmod_lt_of_pos _ (by decide)⟩
  have h := Int.tmod_lt_of_pos (-k) (b := 60) (by decide)
  rw [Int.neg_tmod] at h
  omega
set_option maxHeartbeats 1000000 in
theorem keepMod60 (k : Int) (w : World) : Calls Tryz.prog 14 #[.int .i64 k, .int .i64 60] w fun e w' => (∃ m : Nat, m < 60 ∧ e = .returned (.int .i64 m)) ∧ w = w' := by
  obtain ⟨h1, h2⟩ := tmod60 k
  have h3 : IntKind.i64.wrap (k.tmod 60 + 60) = k.tmod 60 + 60 := by rw [IntKind.wrap_i64]; omega
  have HM := Lib.hid (show 0 ≤ (k.tmod 60 + 60) % 60 ∧ (k.tmod 60 + 60) % 60 < 60 by omega)
  go_enter Tryz.func14, Tryz.ntmps14
  go_wp2
  go_ret
  refine ⟨⟨((k.tmod 60 + 60) % 60).toNat, by have := HM.out; omega, ?_⟩, rfl⟩
  rw [Int.toNat_of_nonneg HM.out.1]
  rfl

theorem infoOp : (Tryz.prog.info? 63).map (fun i => (i.zero, i.size, i.bytes)) = some (some (.agg #[.int .i64 0, .int .i64 0, .string ByteArray.empty, .int .i64 0, .int .i64 0, .string ByteArray.empty, .int .i64 0, .int .i64 0, .string ByteArray.empty, .bool false]), 10, 104) := by kernel_rfl
theorem oneOps (l : List POp) : ∀ u ∈ (l.map POp.cells).flatten, u.oneCell' = true := by
  intro u hu
  obtain ⟨r, hr, hur⟩ := List.mem_flatten.1 hu
  obtain ⟨o, -, rfl⟩ := List.mem_map.1 hr
  simp only [POp.cells, List.mem_cons, List.not_mem_nil, or_false] at hur
  rcases hur with rfl | rfl | rfl | rfl | rfl | rfl | rfl | rfl | rfl | rfl <;> rfl
theorem opsOwn {w : World} {v : Value} {l : List POp} {ob : Option Nat} (h : OwnS w 63 10 v l.length (l.map POp.cells).flatten ob) : OpsR (fun _ => True) w v l := by
  have h2 : OwnL w 63 10 (fun (o : POp) r => r = o.cells) v l ob := ⟨l.map POp.cells, by simp, fun k x r hx hr => by
    rw [List.getElem?_map, hx] at hr
    simp only [Option.map_some, Option.some.injEq] at hr
    subst hr
    exact ⟨rfl, rfl⟩, h⟩
  exact h2.toSl (fun _ _ => trivial)
theorem idsLit (w : World) (a b : Int) : IdsR (fun _ => True) (w.alloc (.cells #[.int .i64 a, .int .i64 b] 2)) (.slice (some ⟨w.heap.size, 0, none⟩) 2 2) [a, b] :=
  IdsO.toR (l := [a, b]) (ob := some w.heap.size) (OwnS.lit w #[.int .i64 a, .int .i64 b] 2 1 2 (by unfold maxLen; omega) rfl) (fun _ _ => trivial)
def manL (k : Nat) : List POp := List.replicate k wa
set_option maxRecDepth 100000 in
set_option maxHeartbeats 8000000 in
theorem law18Wakes (w : World) : Calls Tryz.prog 9 #[] w fun e w' => e = .returned (.bool true) ∧ Grow w w' := by
  obtain ⟨iO, hiO, hzO0, hzO1, hzO2⟩ := info_parts infoOp
  go_enter Tryz.func9, Tryz.ntmps9
  go_wp2
  go_loopg [1, 2] 3 (fun g lv i wr => ∃ (k : Nat) (ob : Option Nat), k ≤ 3 ∧ g = 3 - k ∧ i = .int .i64 k ∧ OwnS wr 63 10 lv k ((manL k).map POp.cells).flatten ob ∧ (∀ q, ob = some q → w.heap.size ≤ q) ∧ Grow w wr)
  case atStart => exact ⟨0, none, by omega, by omega, rfl, OwnS.nil _ _ _, by simp, Grow.rfl' w⟩
  case round =>
    obtain ⟨k, ob, hk, rfl, rfl, ho, hob, hg⟩ := hrel
    have HO := Lib.hid ho; have HOB := Lib.hid hob; have HG := Lib.hid hg
    obtain ⟨oa, oc, rfl, -, -⟩ := ho.isSlice
    clear ho hob hg
    by_cases hk3 : k < 3
    · have HW := Lib.hid (show ∀ o1, Grow wr (wr.alloc o1) from fun o1 => (Grow.rfl' wr).allocd o1)
      have HRD := Lib.hid (Rd.lit wr wa.cells.toArray 63 10 1 rfl)
      have HM := Lib.hid (show ((manL (k + 1)).map POp.cells).flatten = ((manL k).map POp.cells).flatten ++ wa.cells by
        unfold manL
        rw [List.replicate_succ']
        simp)
      go_wp2_with (at_builtin; go_must (refine wpList_append_S _ rfl (.tmp 10) (.tmp 12) 22 rfl 63 iO _ 10 104 Tryz.underlying22 hiO hzO0 hzO1 hzO2 rfl (by decide) (.slice oa k oc) k _ ob rfl (HO.out.grow (HW.out _)) (.slice (some ⟨wr.heap.size, 0, none⟩) 1 1) rfl 1 _ HRD.out (by have := oneOps [wa]; simpa using this) (by unfold maxLen; omega) (by omega) ?_))
      intro v5 w5 ob5 p1 p2 p3
      have HO5 := Lib.hid (show OwnS w5 63 10 v5 (k + 1) ((manL (k + 1)).map POp.cells).flatten ob5 by rw [HM.out]; exact p1)
      have HG5 := Lib.hid (show Grow w w5 from (HG.out.step (HW.out _)).modd p2 (fun b hb => HOB.out b hb))
      have HOB5 := Lib.hid (show ∀ q, ob5 = some q → w.heap.size ≤ q from fun q hq => by
        have h1 := HG.out.size
        rcases p3 with p3 | ⟨g, p3, hge⟩
        · exact HOB.out q (by rw [← p3]; exact hq)
        · rw [p3] at hq; cases hq; first | omega | (simp at hge; omega))
      clear p1 p2 p3
      go_wp2_with fail
      go_roundg (3 - (k + 1))
      case measure => omega
      case rel => exact ⟨k + 1, ob5, by omega, rfl, by go_num, HO5.out, HOB5.out, HG5.out⟩
    · obtain rfl : k = 3 := by omega
      have HW := Lib.hid (show ∀ o1, Grow wr (wr.alloc o1) from fun o1 => (Grow.rfl' wr).allocd o1)
      have HRD := Lib.hid (Rd.lit wr ((wb 1 2).cells ++ (wb 2 3).cells).toArray 63 10 2 rfl)
      go_wp2_with (at_builtin; go_must (refine wpList_append_S _ rfl (.tmp 14) (.tmp 17) 22 rfl 63 iO _ 10 104 Tryz.underlying22 hiO hzO0 hzO1 hzO2 rfl (by decide) (.slice oa 3 oc) 3 _ ob rfl (HO.out.grow (HW.out _)) (.slice (some ⟨wr.heap.size, 0, none⟩) 2 2) rfl 2 _ HRD.out (by have := oneOps [wb 1 2, wb 2 3]; simpa using this) (by unfold maxLen; omega) (by omega) ?_))
      intro v5 w5 ob5 p1 p2 p3
      have HO5 := Lib.hid (show OpsR (fun _ => True) w5 v5 wakeOps from opsOwn (l := wakeOps) (ob := ob5) (by
        have e : (wakeOps.map POp.cells).flatten = ((manL 3).map POp.cells).flatten ++ ((wb 1 2).cells ++ (wb 2 3).cells) := rfl
        rw [e]
        exact p1))
      have HG5 := Lib.hid (show Grow w w5 from (HG.out.step (HW.out _)).modd p2 (fun b hb => HOB.out b hb))
      clear p1 p2 p3
      go_wp2_with fail
      refine (lawMade _ v5 wakeOps _ HO5.out).mono ?_
      rintro e w6 h6
      obtain ⟨-, B1, B2, rfl, hpr⟩ : fairOps wakeOps = true ∧ ∃ (B1 B2 : Nat), e = .returned (.tuple #[.pointer (some ⟨B1, 0, none⟩), .pointer (some ⟨B2, 0, none⟩), .bool true]) ∧ Pair 98 89 w5 w6 B1 B2 (madeG wakeOps) (madeG wakeOps) := by
        rcases h6 with ⟨h, _⟩ | h
        · rw [wake_fair] at h; cases h
        · exact h
      rw [wake_made] at hpr
      have HG6 := Lib.hid (HG5.out.step hpr.grown)
      have hi : GInv wakeG := by rw [← wake_made]; exact madeK_inv _ _
      have hgd : goodG wakeG = true := by rw [← wake_made]; exact madeK_good _ _
      obtain ⟨S1, hok⟩ := hpr.left
      have HE := Lib.hid (edgesAt_of hok.rd hi)
      have H64 := Lib.hid (ends64 hgd)
      clear hpr hi hgd hok
      go_wp2_with fail
      refine (adjReach _ wakeG.edges 1 sKnows 2 _ HE.out (by decide) H64.out (by decide)).mono ?_
      rintro e w7 ⟨v7, L7, rfl, hL7, hI7, hg7⟩
      obtain rfl : L7 = [2, 3] := hL7.uniq wake_rch (fun _ => Iff.rfl)
      have HG7 := Lib.hid (HG6.out.step hg7)
      have HE7 := Lib.hid (HE.out.grow hg7)
      have HI7 := Lib.hid (show ∀ o1, IdsR (fun x => w6.heap.size ≤ x) (w7.alloc o1) v7 [2, 3] from fun o1 => SlR.keep hI7 (fun _ _ hb => ((Grow.rfl' w7).allocd o1).heapEq hb) ((Grow.rfl' w7).allocd o1).size (fun _ _ _ h => h))
      clear hL7 hI7 hg7
      go_wp2_with fail
      refine (keepLongsEq _ _ _ _ [2, 3] _ (HI7.out _) (idsLit w7 2 3)).mono ?_
      rintro e w8 ⟨rfl, hg8⟩
      have HG8 := Lib.hid ((HG7.out.allocd _).step hg8)
      have HE8 := Lib.hid (HE7.out.grow (((Grow.rfl' w7).allocd _).step hg8))
      clear hg8
      go_wp2_with fail
      refine (adjPath _ wakeG.edges 1 3 ByteArray.empty _ HE8.out (by decide)).mono ?_
      rintro e w9 ⟨v9, L9, rfl, hL9, hI9, hg9⟩
      obtain rfl : L9 = [4, 5] := hL9.uniq wake_path
      have HG9 := Lib.hid (HG8.out.step hg9)
      have HI9 := Lib.hid (show ∀ o1, IdsR (fun x => w8.heap.size ≤ x) (w9.alloc o1) v9 [4, 5] from fun o1 => SlR.keep hI9 (fun _ _ hb => ((Grow.rfl' w9).allocd o1).heapEq hb) ((Grow.rfl' w9).allocd o1).size (fun _ _ _ h => h))
      clear hL9 hI9 hg9
      go_wp2_with fail
      refine (keepLongsEq _ _ _ _ [4, 5] _ (HI9.out _) (idsLit w9 4 5)).mono ?_
      rintro e wa ⟨rfl, hga⟩
      have HGA := Lib.hid ((HG9.out.allocd _).step hga)
      clear hga
      go_wp2
      go_ret
      exact ⟨rfl, HGA.out⟩
/-- what Made tells, opened -/
def MadeP (w : World) (e : Ending) (w' : World) : Prop :=
  (e = .returned (.tuple #[.pointer none, .pointer none, .bool false]) ∧ Grow w w') ∨
  ∃ (B1 B2 : Nat) (S1 S2 : Nat → Prop) (G : PGraph), e = .returned (.tuple #[.pointer (some ⟨B1, 0, none⟩), .pointer (some ⟨B2, 0, none⟩), .bool true]) ∧ goodG G = true ∧ GInv G ∧ GraphOk 98 S1 w' B1 G ∧ GraphOk 89 S2 w' B2 G ∧ Grow w w'
theorem lawMadeP (S : Nat → Prop) (v : Value) (l : List POp) (w : World) (hl : OpsR S w v l) : Calls Tryz.prog 10 #[v] w (MadeP w) :=
  (lawMade S v l w hl).mono fun e w' h => by
    rcases h with ⟨-, h1, h2⟩ | ⟨-, B1, B2, h1, h2⟩
    · exact .inl ⟨h1, h2⟩
    · obtain ⟨S1, S2, k1, k2, -, -, -, k6⟩ := h2
      exact .inr ⟨B1, B2, S1, S2, madeG l, h1, madeK_good _ _, madeK_inv _ _, k1, k2, k6⟩
end Go.Hg
