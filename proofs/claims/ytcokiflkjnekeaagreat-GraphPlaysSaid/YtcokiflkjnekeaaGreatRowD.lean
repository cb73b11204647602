/- A law's row: nodes, edges, catalogs, opened. No condition. -/
import Derived.Test.YtcokiflkjnekeaaGreatRowC
namespace Go.Hg
open Go.RowKit Go.ChangeShapes Go.WideShapes Go.Deep Go.Proofs

theorem cellsProp : Tryz.prog.cellsOf 101 = 4 := by kernel_rfl
theorem cellsNode : Tryz.prog.cellsOf 59 = 3 := by kernel_rfl
theorem cellsEdge : Tryz.prog.cellsOf 79 = 5 := by kernel_rfl
theorem cellsPropS : Tryz.prog.cellsOf 57 = 1 := by kernel_rfl
theorem cellsNodeS : Tryz.prog.cellsOf 65 = 1 := by kernel_rfl
theorem cellsEdgeS : Tryz.prog.cellsOf 66 = 1 := by kernel_rfl
theorem cellsStrS : Tryz.prog.cellsOf 22 = 1 := by kernel_rfl
theorem cellsRule : Tryz.prog.cellsOf 52 = 8 := by kernel_rfl
theorem cellsRuleS : Tryz.prog.cellsOf 23 = 1 := by kernel_rfl
theorem cellsIndex : Tryz.prog.cellsOf 54 = 2 := by kernel_rfl
theorem cellsIndexS : Tryz.prog.cellsOf 24 = 1 := by kernel_rfl
theorem cellsCat : Tryz.prog.cellsOf 26 = 5 := by kernel_rfl
theorem list1 {α : Type} {l : List α} (h : l.length = 1) : ∃ a, l = [a] := by
  match l, h with
  | [a], _ => exact ⟨a, rfl⟩
theorem list2 {α : Type} {l : List α} (h : l.length = 2) : ∃ a b, l = [a, b] := by
  match l, h with
  | [a, b], _ => exact ⟨a, b, rfl⟩
theorem list4 {α : Type} {l : List α} (h : l.length = 4) : ∃ a b c d, l = [a, b, c, d] := by
  match l, h with
  | [a, b, c, d], _ => exact ⟨a, b, c, d, rfl⟩
theorem list5 {α : Type} {l : List α} (h : l.length = 5) : ∃ a b c d e, l = [a, b, c, d, e] := by
  match l, h with
  | [a, b, c, d, e], _ => exact ⟨a, b, c, d, e, rfl⟩
theorem list8 {α : Type} {l : List α} (h : l.length = 8) : ∃ a b c d e f g i, l = [a, b, c, d, e, f, g, i] := by
  match l, h with
  | [a, b, c, d, e, f, g, i], _ => exact ⟨a, b, c, d, e, f, g, i, rfl⟩

section
variable {H : Type} {enc : TypeId × Value → H} {W : World} {base : Nat} {sp : Nat → Bool} {held : Bool}
/-- a slice whose elements are opened by open1 -/
theorem openListC {α : Type} {tS tE : TypeId} {sz : Nat} (R : α → List Value → Prop) (ht : Tryz.prog.underlying tS = some (.slice tE)) (hcz : Tryz.prog.cellsOf tE = sz) (hsz : 0 < sz)
    (open1 : ∀ (n : Nat) (cs : List Value) x, DataW.trod enc Tryz.prog W base sp held n tE cs = some x → ∃ o, R o cs) {n : Nat} {cs : List Value} {x : DataW H × List MemPlace} (h : DataW.trod enc Tryz.prog W base sp held n tS cs = some x) :
    ∃ v, ∃ l : List α, cs = [v] ∧ SlR (fun _ => True) W sz R v l := by
  rcases open_slice ht h with ⟨hc, -⟩ | ⟨a, len, cap, m, n, D, Pl, hc, -, hlc, hcm, hm, -, hel⟩
  · exact ⟨_, [], hc, (OwnL.nil W tE sz R).toSl (by simp)⟩
  · rw [hcz] at hel
    have hlm : len ≤ m := by rw [hm]; split <;> omega
    have key : ∀ i, i < len → ∃ (o : α) (r : List Value), R o r ∧ r.length = sz ∧ ∀ (j : Nat) c, r[j]? = some c → W.cell? ((a.add (i * sz)).add j) = some c := by
      intro i hi
      obtain ⟨cs', h1, h2⟩ := hel i (by omega)
      obtain ⟨o, ho⟩ := open1 _ _ _ h2
      exact ⟨o, cs', ho, (cells?_at h1).1, (cells?_at h1).2⟩
    obtain ⟨l, hl, hcells⟩ : ∃ l : List (α × List Value), l.length = len ∧ ∀ i p, l[i]? = some p → R p.1 p.2 ∧ p.2.length = sz ∧ ∀ (j : Nat) c, p.2[j]? = some c → W.cell? ((a.add (i * sz)).add j) = some c := by
      have build : ∀ n, n ≤ len → ∃ l : List (α × List Value), l.length = n ∧ ∀ i p, l[i]? = some p → R p.1 p.2 ∧ p.2.length = sz ∧ ∀ (j : Nat) c, p.2[j]? = some c → W.cell? ((a.add (i * sz)).add j) = some c := by
        intro n
        induction n with
        | zero => intro _; exact ⟨[], rfl, by simp⟩
        | succ n ih =>
          intro hn
          obtain ⟨l, hl, hc⟩ := ih (by omega)
          obtain ⟨o, r, ho⟩ := key n (by omega)
          refine ⟨l ++ [(o, r)], by simp [hl], fun i o' hi => ?_⟩
          by_cases hin : i < n
          · rw [List.getElem?_append_left (by omega)] at hi
            exact hc i o' hi
          · rw [List.getElem?_append_right (by omega), hl] at hi
            have e : i - n = 0 := by have := (List.getElem?_eq_some_iff.1 hi).1; simp at this; omega
            rw [e] at hi
            simp at hi
            subst hi
            obtain rfl : i = n := by omega
            exact ho
      exact build len (Nat.le_refl _)
    subst hl
    refine ⟨_, l.map (·.1), hc, some a, cap, l.map (·.2), by simp, by simpa using hlc, hcm, by simp, fun k x r hx hr => ?_, fun h0 => ?_⟩
    · rw [List.getElem?_map] at hx hr
      cases hk : l[k]? with
      | none => rw [hk] at hx; simp at hx
      | some p =>
        rw [hk] at hx hr
        simp only [Option.map_some, Option.some.injEq] at hx hr
        subst hx; subst hr
        exact (hcells k p hk).1
    · have h0' : 0 < l.length := by simpa using h0
      obtain ⟨-, hz, hc0⟩ := hcells 0 l[0] (List.getElem?_eq_getElem h0')
      have hc0 := hc0 0 _ (List.getElem?_eq_getElem (by omega))
      rw [Nat.zero_mul] at hc0
      have ha : a = ⟨a.block, a.off, none⟩ := by
        obtain ⟨b, o, s⟩ := a
        cases s with
        | none => rfl
        | some s =>
          exfalso
          simp only [Addr.add, if_pos] at hc0
          unfold World.cell? at hc0
          simp at hc0
          split at hc0 <;> cases hc0
      have hblt : a.block < W.heap.size := by
        have := World.block_lt_of_cell? W _ hc0
        simpa [Addr.add] using this
      refine ⟨a.block, a.off, by rw [← ha], trivial, hblt, fun k r j c hr hj => ?_⟩
      rw [List.getElem?_map] at hr
      obtain ⟨p, hp, rfl⟩ := Option.map_eq_some_iff.1 hr
      have := (hcells k p hp).2.2 j c hj
      rw [ha, Addr.add_lit, Addr.add_lit] at this
      exact this
theorem openProp {n : Nat} {cs : List Value} {x : DataW H × List MemPlace} (h : DataW.trod enc Tryz.prog W base sp held n 101 cs = some x) : ∃ o : PProp, RProp o cs := by
  obtain ⟨xs, m, -, -, hl, hsz, hf⟩ := DataW.trod_struct Tryz.underlying101 h
  rw [cellsProp] at hl
  obtain ⟨c0, c1, c2, c3, rfl⟩ := list4 hl
  obtain ⟨y0, h0⟩ := field_at hsz hf 0 rfl rfl cellsStr rfl
  obtain ⟨y1, h1⟩ := field_at hsz hf 1 rfl rfl cellsValue rfl
  obtain ⟨s, e0, -⟩ := DataW.trod_string Tryz.underlying9 h0
  obtain ⟨v, e1⟩ := openValue h1
  simp at e0 e1
  obtain ⟨e1, e2, e3⟩ := e1
  exact ⟨⟨s, v⟩, by unfold RProp; rw [e0, e1, e2, e3]⟩
theorem openProps {n : Nat} {cs : List Value} {x : DataW H × List MemPlace} (h : DataW.trod enc Tryz.prog W base sp held n 57 cs = some x) : ∃ v, ∃ l : List PProp, cs = [v] ∧ PropsR (fun _ => True) W v l :=
  openListC RProp Tryz.underlying57 cellsProp (by decide) (fun _ _ _ h => openProp h) h
theorem openNode {n : Nat} {cs : List Value} {x : DataW H × List MemPlace} (h : DataW.trod enc Tryz.prog W base sp held n 59 cs = some x) : ∃ o : PNode, RNode (fun _ => True) W o cs := by
  obtain ⟨xs, m, -, -, hl, hsz, hf⟩ := DataW.trod_struct Tryz.underlying59 h
  rw [cellsNode] at hl
  obtain ⟨c0, c1, c2, rfl⟩ := list3 hl
  obtain ⟨y0, h0⟩ := field_at hsz hf 0 rfl rfl cellsI64 rfl
  obtain ⟨y1, h1⟩ := field_at hsz hf 1 rfl rfl cellsStr rfl
  obtain ⟨y2, h2⟩ := field_at hsz hf 2 rfl rfl cellsPropS rfl
  obtain ⟨i, e0, -⟩ := DataW.trod_int Tryz.underlying2 h0
  obtain ⟨s, e1, -⟩ := DataW.trod_string Tryz.underlying9 h1
  obtain ⟨pv, ps, e2, hp⟩ := openProps h2
  simp at e0 e1 e2
  exact ⟨⟨i, s, ps⟩, pv, by rw [e0, e1, e2], hp⟩
theorem openEdge {n : Nat} {cs : List Value} {x : DataW H × List MemPlace} (h : DataW.trod enc Tryz.prog W base sp held n 79 cs = some x) : ∃ o : PEdge, REdge (fun _ => True) W o cs := by
  obtain ⟨xs, m, -, -, hl, hsz, hf⟩ := DataW.trod_struct Tryz.underlying79 h
  rw [cellsEdge] at hl
  obtain ⟨c0, c1, c2, c3, c4, rfl⟩ := list5 hl
  obtain ⟨y0, h0⟩ := field_at hsz hf 0 rfl rfl cellsI64 rfl
  obtain ⟨y1, h1⟩ := field_at hsz hf 1 rfl rfl cellsStr rfl
  obtain ⟨y2, h2⟩ := field_at hsz hf 2 rfl rfl cellsI64 rfl
  obtain ⟨y3, h3⟩ := field_at hsz hf 3 rfl rfl cellsI64 rfl
  obtain ⟨y4, h4⟩ := field_at hsz hf 4 rfl rfl cellsPropS rfl
  obtain ⟨i, e0, -⟩ := DataW.trod_int Tryz.underlying2 h0
  obtain ⟨s, e1, -⟩ := DataW.trod_string Tryz.underlying9 h1
  obtain ⟨f, e2, -⟩ := DataW.trod_int Tryz.underlying2 h2
  obtain ⟨t, e3, -⟩ := DataW.trod_int Tryz.underlying2 h3
  obtain ⟨pv, ps, e4, hp⟩ := openProps h4
  simp at e0 e1 e2 e3 e4
  exact ⟨⟨i, s, f, t, ps⟩, pv, by rw [e0, e1, e2, e3, e4], hp⟩
theorem openNodes {n : Nat} {cs : List Value} {x : DataW H × List MemPlace} (h : DataW.trod enc Tryz.prog W base sp held n 65 cs = some x) : ∃ v, ∃ l : List PNode, cs = [v] ∧ NodesR (fun _ => True) W v l :=
  openListC _ Tryz.underlying65 cellsNode (by decide) (fun _ _ _ h => openNode h) h
theorem openEdges {n : Nat} {cs : List Value} {x : DataW H × List MemPlace} (h : DataW.trod enc Tryz.prog W base sp held n 66 cs = some x) : ∃ v, ∃ l : List PEdge, cs = [v] ∧ EdgesR (fun _ => True) W v l :=
  openListC _ Tryz.underlying66 cellsEdge (by decide) (fun _ _ _ h => openEdge h) h
theorem openStrs {n : Nat} {cs : List Value} {x : DataW H × List MemPlace} (h : DataW.trod enc Tryz.prog W base sp held n 22 cs = some x) : ∃ v, ∃ l : List ByteArray, cs = [v] ∧ StrsR (fun _ => True) W v l :=
  openListC RStr Tryz.underlying22 cellsStr (by decide) (fun _ _ _ h => by
    obtain ⟨s, e, -⟩ := DataW.trod_string Tryz.underlying9 h
    exact ⟨s, e⟩) h
theorem openRule {n : Nat} {cs : List Value} {x : DataW H × List MemPlace} (h : DataW.trod enc Tryz.prog W base sp held n 52 cs = some x) : ∃ o : PRule, RRule o cs := by
  obtain ⟨xs, m, -, -, hl, hsz, hf⟩ := DataW.trod_struct Tryz.underlying52 h
  rw [cellsRule] at hl
  obtain ⟨c0, c1, c2, c3, c4, c5, c6, c7, rfl⟩ := list8 hl
  obtain ⟨y0, h0⟩ := field_at hsz hf 0 rfl rfl cellsI rfl
  obtain ⟨y1, h1⟩ := field_at hsz hf 1 rfl rfl cellsI rfl
  obtain ⟨y2, h2⟩ := field_at hsz hf 2 rfl rfl cellsStr rfl
  obtain ⟨y3, h3⟩ := field_at hsz hf 3 rfl rfl cellsStr rfl
  obtain ⟨y4, h4⟩ := field_at hsz hf 4 rfl rfl cellsStr rfl
  obtain ⟨y5, h5⟩ := field_at hsz hf 5 rfl rfl cellsStr rfl
  obtain ⟨y6, h6⟩ := field_at hsz hf 6 rfl rfl cellsI rfl
  obtain ⟨y7, h7⟩ := field_at hsz hf 7 rfl rfl cellsI rfl
  obtain ⟨a0, e0, -⟩ := DataW.trod_int Tryz.underlying3 h0
  obtain ⟨a1, e1, -⟩ := DataW.trod_int Tryz.underlying3 h1
  obtain ⟨a2, e2, -⟩ := DataW.trod_string Tryz.underlying9 h2
  obtain ⟨a3, e3, -⟩ := DataW.trod_string Tryz.underlying9 h3
  obtain ⟨a4, e4, -⟩ := DataW.trod_string Tryz.underlying9 h4
  obtain ⟨a5, e5, -⟩ := DataW.trod_string Tryz.underlying9 h5
  obtain ⟨a6, e6, -⟩ := DataW.trod_int Tryz.underlying3 h6
  obtain ⟨a7, e7, -⟩ := DataW.trod_int Tryz.underlying3 h7
  simp at e0 e1 e2 e3 e4 e5 e6 e7
  exact ⟨⟨a0, a1, a2, a3, a4, a5, a6, a7⟩, by unfold RRule; rw [e0, e1, e2, e3, e4, e5, e6, e7]⟩
theorem openRules {n : Nat} {cs : List Value} {x : DataW H × List MemPlace} (h : DataW.trod enc Tryz.prog W base sp held n 23 cs = some x) : ∃ v, ∃ l : List PRule, cs = [v] ∧ RulesR (fun _ => True) W v l :=
  openListC RRule Tryz.underlying23 cellsRule (by decide) (fun _ _ _ h => openRule h) h
theorem openIndex {n : Nat} {cs : List Value} {x : DataW H × List MemPlace} (h : DataW.trod enc Tryz.prog W base sp held n 54 cs = some x) : ∃ o : PIndex, RIndex o cs := by
  obtain ⟨xs, m, -, -, hl, hsz, hf⟩ := DataW.trod_struct Tryz.underlying54 h
  rw [cellsIndex] at hl
  obtain ⟨c0, c1, rfl⟩ := list2 hl
  obtain ⟨y0, h0⟩ := field_at hsz hf 0 rfl rfl cellsStr rfl
  obtain ⟨y1, h1⟩ := field_at hsz hf 1 rfl rfl cellsStr rfl
  obtain ⟨a0, e0, -⟩ := DataW.trod_string Tryz.underlying9 h0
  obtain ⟨a1, e1, -⟩ := DataW.trod_string Tryz.underlying9 h1
  simp at e0 e1
  exact ⟨⟨a0, a1⟩, by unfold RIndex; rw [e0, e1]⟩
theorem openIndexes {n : Nat} {cs : List Value} {x : DataW H × List MemPlace} (h : DataW.trod enc Tryz.prog W base sp held n 24 cs = some x) : ∃ v, ∃ l : List PIndex, cs = [v] ∧ IndexesR (fun _ => True) W v l :=
  openListC RIndex Tryz.underlying24 cellsIndex (by decide) (fun _ _ _ h => openIndex h) h
set_option maxRecDepth 100000 in
theorem openCat {v : Value} {d : DataW H} {ps : List MemPlace} {r : Reach} {b0 : Nat} (hval : Value.okWide Tryz.prog W r b0 26 v) (h : DataW.Trod enc Tryz.prog W base sp held 26 v d ps) :
    ∃ (c : PCat) (nv ev rv iv : Value), v = c.arg nv ev rv iv ∧ CatR (fun _ => True) W nv ev rv iv c := by
  obtain ⟨cs, rfl, -⟩ := okWide_struct Tryz.underlying26 hval
  obtain ⟨n, hn⟩ := h
  obtain ⟨xs, m, -, -, hl, hsz, hf⟩ := DataW.trod_struct Tryz.underlying26 hn
  rw [cellsCat] at hl
  obtain ⟨c0, c1, c2, c3, c4, hcs⟩ := list5 hl
  have e : cs.toList = [c0, c1, c2, c3, c4] := hcs
  rw [hcs] at hf
  obtain ⟨y0, h0⟩ := field_at hsz hf 0 rfl rfl cellsStrS rfl
  obtain ⟨y1, h1⟩ := field_at hsz hf 1 rfl rfl cellsStrS rfl
  obtain ⟨y2, h2⟩ := field_at hsz hf 2 rfl rfl cellsRuleS rfl
  obtain ⟨y3, h3⟩ := field_at hsz hf 3 rfl rfl cellsIndexS rfl
  obtain ⟨y4, h4⟩ := field_at hsz hf 4 rfl rfl cellsI rfl
  obtain ⟨nv, ln, e0, hn⟩ := openStrs h0
  obtain ⟨ev, le, e1, he⟩ := openStrs h1
  obtain ⟨rv, lr, e2, hr⟩ := openRules h2
  obtain ⟨iv, li, e3, hi⟩ := openIndexes h3
  obtain ⟨i, e4, -⟩ := DataW.trod_int Tryz.underlying3 h4
  simp at e0 e1 e2 e3 e4
  refine ⟨⟨ln, le, lr, li, i⟩, nv, ev, rv, iv, ?_, hn, he, hr, hi⟩
  have e5 : cs = #[c0, c1, c2, c3, c4] := by rw [← Array.toList_inj, e]
  rw [e5, e0, e1, e2, e3, e4]
end
end Go.Hg
