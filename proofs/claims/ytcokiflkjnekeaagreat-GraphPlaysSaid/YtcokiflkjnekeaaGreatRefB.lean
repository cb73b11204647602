/- hedgerowref17: At, props. Condition: a graph's own. Printed by genrefb.py. -/
import Derived.Test.YtcokiflkjnekeaaGreatRefA
import Derived.Test.YtcokiflkjnekeaaGreatScan
namespace Go.Hg
open Go.RowKit Go.Proofs

def atG (G : PGraph) (id : Int) : List Int := (G.edges.filter fun x => atE x id).map (·.id)
set_option maxRecDepth 100000 in
set_option maxHeartbeats 2000000 in
theorem refAt (S : Nat → Prop) (B : Nat) (G : PGraph) (id : Int) (w : World) (h : GraphRd 70 S w B G) (hb : G.edges.length ≤ 1099511627776) :
    Calls Tryz.prog 24 #[.pointer (some ⟨B, 0, none⟩), .int .i64 id] w (IdsPost (atG G id) w) := by
  obtain ⟨na, nc, ea, ec, hB, c0, c1, c2, -, hn⟩ := h.read
  obtain ⟨iP, hiP, hzP0, hzP1, hzP2⟩ := info_parts infoInt
  obtain ⟨_, _, hv, hal, hac, hA⟩ := SlR.open hn
  simp only [Value.slice.injEq, true_and] at hv
  obtain ⟨rfl, rfl⟩ := hv
  unfold maxLen at hac
  have HS := Lib.hid (show ∀ w', Grow w w' → B < w'.heap.size ∧ w'.cell? ⟨B, 1, none⟩ = some (.slice ea G.edges.length ec) from fun w' hg => ⟨Nat.lt_of_lt_of_le hB hg.size, (hg.cell (p := ⟨B, 1, none⟩) hB).trans c1⟩)
  have HA := Lib.hid hA; have HB := Lib.hid hb
  clear h hn hA hb c0 c2
  unfold atG
  generalize G.edges = l at *
  go_enter Tryz.func24, Tryz.ntmps24
  go_wp2
  go_loopg [5, 6] l.length (fun g vo i wr => ∃ (k : Nat) (ob : Option Nat), k ≤ l.length ∧ g = l.length - k ∧ i = .int .i64 k ∧ IdsO wr vo (((l.take k).filter fun x => atE x id).map (·.id)) ob ∧ (∀ b, ob = some b → w.heap.size ≤ b) ∧ Grow w wr)
  case atStart => exact ⟨0, none, by omega, by omega, rfl, OwnS.nil _ _ _, by simp, Grow.rfl' w⟩
  case round =>
    obtain ⟨k, ob, hk, rfl, rfl, hown, hob, hgr⟩ := hrel
    have HOWN := Lib.hid hown; have HOB := Lib.hid hob; have HGR := Lib.hid hgr
    obtain ⟨oo, co, rfl, -, -⟩ := hown.isSlice
    obtain ⟨hBr, c1r⟩ := HS.out _ HGR.out
    clear c1
    by_cases hkl : k < l.length
    · obtain ⟨ba, oa, ra, rfl, hSa, hba, hRa, hca⟩ := HA.out k l[k] (List.getElem?_eq_getElem hkl)
      obtain ⟨pva, hba', a0, a1, a2, a3, a4, hpa⟩ := hRa.at hba hgr hca
      clear hca hRa hSa hba hgr hown hob hpa
      have HT := Lib.hid (show l.take (k + 1) = l.take k ++ [l[k]] from List.take_succ_eq_append_getElem hkl)
      have HFL := Lib.hid (show ((l.take k).filter fun x => atE x id).length ≤ l.length from Nat.le_trans (List.length_filter_le _ _) (List.length_take_le' k l))
      generalize l[k] = p at *
      generalize hfl : ((l.take k).filter fun x => atE x id).map (·.id) = fl at *
      have hfll : ((l.take k).filter fun x => atE x id).length = fl.length := by rw [← hfl, List.length_map]
      rw [hfll] at HFL
      have HFF := Lib.hid hfl
      clear hfl hfll
      by_cases hp1 : p.from_ = id
      · have hq1 : (p.from_ == id) = true := by simpa using hp1
        have HATE := Lib.hid (show atE p id = true by unfold atE; simp [hp1])
        clear hp1
        have HW := Lib.hid (show ∀ o1, Grow wr (wr.alloc o1) from fun o1 => (Grow.rfl' wr).allocd o1)
        have hf1 : Hid (((l.take (k + 1)).filter fun x => atE x id).map (·.id) = fl ++ [p.id]) := Lib.hid (by rw [HT.out, List.filter_append, ← HFF.out]; simp [HATE.out])
        have HRD := Lib.hid (Rd.lit wr #[.int .i64 p.id] 2 1 1 rfl)
        go_wp2_with (at_builtin; go_must (refine wpList_append_S _ rfl (.tmp 38) (.tmp 47) 62 rfl 2 iP _ 1 8 Tryz.underlying62 hiP hzP0 hzP1 hzP2 rfl (by decide) (.slice oo fl.length co) fl.length _ ob rfl (HOWN.out.grow (HW.out _)) (.slice (some ⟨wr.heap.size, 0, none⟩) 1 1) rfl 1 _ HRD.out (one1 _ rfl) (by have := HB.out; have := HFL.out; unfold maxLen; omega) (by have := HB.out; have := HFL.out; omega) ?_))
        intro v' w5 ob' h1 h2 h3
        have hown5 : IdsO w5 v' (((l.take (k + 1)).filter fun x => atE x id).map (·.id)) ob' := by
          rw [hf1.out]
          unfold IdsO
          rw [List.length_append, List.map_append]
          exact h1
        have hsz := HGR.out.size
        have hob5 : ∀ b, ob' = some b → w.heap.size ≤ b := by
          intro b hb
          rcases h3 with h3 | ⟨g, h3, hge⟩
          · exact HOB.out b (by rw [← h3]; exact hb)
          · rw [h3] at hb; cases hb; first | omega | (simp at hge; omega)
        have hg5 : Grow w w5 := (HGR.out.step (HW.out _)).modd h2 (fun b hb => HOB.out b hb)
        have H5 := Lib.hid hown5; have HO5 := Lib.hid hob5; have HG5 := Lib.hid hg5
        clear h1 h2 h3 hown5 hob5 hg5 hsz
        go_wp2_with fail
        go_roundg (l.length - (k + 1))
        case measure => omega
        case rel => exact ⟨k + 1, ob', by omega, rfl, by go_num, H5.out, HO5.out, HG5.out⟩
      · have hq1 : (p.from_ == id) = false := by simpa using hp1
        by_cases hp2 : p.to_ = id
        · have hq2 : (p.to_ == id) = true := by simpa using hp2
          have HATE := Lib.hid (show atE p id = true by unfold atE; simp [hp2])
          clear hp1 hp2
          have HW := Lib.hid (show ∀ o1, Grow wr (wr.alloc o1) from fun o1 => (Grow.rfl' wr).allocd o1)
          have hf1 : Hid (((l.take (k + 1)).filter fun x => atE x id).map (·.id) = fl ++ [p.id]) := Lib.hid (by rw [HT.out, List.filter_append, ← HFF.out]; simp [HATE.out])
          have HRD := Lib.hid (Rd.lit wr #[.int .i64 p.id] 2 1 1 rfl)
          go_wp2_with (at_builtin; go_must (refine wpList_append_S _ rfl (.tmp 38) (.tmp 47) 62 rfl 2 iP _ 1 8 Tryz.underlying62 hiP hzP0 hzP1 hzP2 rfl (by decide) (.slice oo fl.length co) fl.length _ ob rfl (HOWN.out.grow (HW.out _)) (.slice (some ⟨wr.heap.size, 0, none⟩) 1 1) rfl 1 _ HRD.out (one1 _ rfl) (by have := HB.out; have := HFL.out; unfold maxLen; omega) (by have := HB.out; have := HFL.out; omega) ?_))
          intro v' w5 ob' h1 h2 h3
          have hown5 : IdsO w5 v' (((l.take (k + 1)).filter fun x => atE x id).map (·.id)) ob' := by
            rw [hf1.out]
            unfold IdsO
            rw [List.length_append, List.map_append]
            exact h1
          have hsz := HGR.out.size
          have hob5 : ∀ b, ob' = some b → w.heap.size ≤ b := by
            intro b hb
            rcases h3 with h3 | ⟨g, h3, hge⟩
            · exact HOB.out b (by rw [← h3]; exact hb)
            · rw [h3] at hb; cases hb; first | omega | (simp at hge; omega)
          have hg5 : Grow w w5 := (HGR.out.step (HW.out _)).modd h2 (fun b hb => HOB.out b hb)
          have H5 := Lib.hid hown5; have HO5 := Lib.hid hob5; have HG5 := Lib.hid hg5
          clear h1 h2 h3 hown5 hob5 hg5 hsz
          go_wp2_with fail
          go_roundg (l.length - (k + 1))
          case measure => omega
          case rel => exact ⟨k + 1, ob', by omega, rfl, by go_num, H5.out, HO5.out, HG5.out⟩
        · have hq2 : (p.to_ == id) = false := by simpa using hp2
          have HATE := Lib.hid (show atE p id = false by unfold atE; simp [hp1, hp2])
          clear hp1 hp2
          have hf1 : Hid (((l.take (k + 1)).filter fun x => atE x id).map (·.id) = fl) := Lib.hid (by rw [HT.out, List.filter_append, ← HFF.out]; simp [HATE.out])
          go_wp2_with fail
          go_roundg (l.length - (k + 1))
          case measure => omega
          case rel => exact ⟨k + 1, ob, by omega, rfl, by go_num, by rw [hf1.out]; exact HOWN.out, HOB.out, HGR.out⟩
    · have hkk : l.take k = l := List.take_of_length_le (by omega)
      rw [hkk] at HOWN
      clear hown hob hgr
      simp only [hkk]
      go_wp2
      go_ret
      exact ⟨_, ob, rfl, HOWN.out, HOB.out, HGR.out⟩

/-- what props tells -/
def RPropsPost (S : Nat → Prop) (G : PGraph) (id : Int) (w : World) (e : Ending) (w' : World) : Prop :=
  ((findP G id = none ∧ e = .returned (.tuple #[.slice none 0 0, .bool false])) ∨ ∃ ps pv, findP G id = some ps ∧ e = .returned (.tuple #[pv, .bool true]) ∧ PropsR S w pv ps) ∧ w' = w
theorem idxZ_none {α : Type} {f : α → Int} {l : List α} {id : Int} (h : (l.any fun y => decide (f y = id)) = false) : idxZ f l id = -1 :=
  idxZ_miss fun y hy => by have := List.any_eq_false.1 h y hy; simpa using this
theorem idxZ_some {α : Type} {f : α → Int} {l : List α} {id : Int} (h : (l.any fun y => decide (f y = id)) = true) : ∃ (k : Nat) (x : α), idxZ f l id = k ∧ k < l.length ∧ l[k]? = some x ∧ f x = id := by
  rcases idxZ_at f l id with ⟨-, h2⟩ | ⟨k, x, h1, h2, h3, -⟩
  · rw [h] at h2; cases h2
  · exact ⟨k, x, h1, (List.getElem?_eq_some_iff.1 h2).1, h2, h3⟩
theorem findP_node {G : PGraph} {id : Int} {k : Nat} {x : PNode} (hs : (G.nodes.map (·.id)).Pairwise (· < ·)) (hx : G.nodes[k]? = some x) (hid : x.id = id) : findP G id = some x.props := by
  unfold findP
  rw [find_idx (fun x : PNode => x.id) hs hx hid]
theorem findP_edge {G : PGraph} {id : Int} {k : Nat} {x : PEdge} (hn : hasN G id = false) (hs : (G.edges.map (·.id)).Pairwise (· < ·)) (hx : G.edges[k]? = some x) (hid : x.id = id) : findP G id = some x.props := by
  unfold findP
  rw [find_none (fun x : PNode => x.id) hn, find_idx (fun x : PEdge => x.id) hs hx hid]
theorem findP_no {G : PGraph} {id : Int} (hn : hasN G id = false) (he : hasE G id = false) : findP G id = none := by
  unfold findP
  rw [find_none (fun x : PNode => x.id) hn, find_none (fun x : PEdge => x.id) he]
set_option maxRecDepth 100000 in
set_option maxHeartbeats 2000000 in
theorem refProps (S : Nat → Prop) (B : Nat) (G : PGraph) (id : Int) (w : World) (h : GraphRd 70 S w B G) (hs : (G.nodes.map (·.id)).Pairwise (· < ·)) (hse : (G.edges.map (·.id)).Pairwise (· < ·)) :
    Calls Tryz.prog 63 #[.pointer (some ⟨B, 0, none⟩), .int .i64 id] w (RPropsPost S G id w) := by
  have HR := Lib.hid h; have HSN := Lib.hid hs; have HSE := Lib.hid hse
  obtain ⟨na, nc, ea, ec, hB, c0, c1, c2, hn, he⟩ := h.read
  obtain ⟨_, _, hv, hal, hac, hA⟩ := SlR.open hn
  simp only [Value.slice.injEq, true_and] at hv
  obtain ⟨rfl, rfl⟩ := hv
  obtain ⟨_, _, hv, hel, hec, hE⟩ := SlR.open he
  simp only [Value.slice.injEq, true_and] at hv
  obtain ⟨rfl, rfl⟩ := hv
  unfold maxLen at hac hec
  have HA := Lib.hid hA; have HE := Lib.hid hE
  clear h hn he hA hE hs hse
  go_enter Tryz.func63, Tryz.ntmps63
  go_wp2_with fail
  refine (refNode S B G id _ HR.out).mono ?_
  rintro e w2 ⟨rfl, rfl⟩
  cases hN : hasN G id
  · rw [idxZ_none (f := fun x : PNode => x.id) hN]
    have HN := Lib.hid hN; clear hN
    go_wp2_with fail
    refine (refEdge S B G id _ HR.out).mono ?_
    rintro e w2 ⟨rfl, rfl⟩
    cases hE : hasE G id
    · rw [idxZ_none (f := fun x : PEdge => x.id) hE]
      have HX := Lib.hid (findP_no HN.out hE); clear hE
      go_wp2
      go_ret2
      exact ⟨.inl ⟨HX.out, rfl⟩, rfl⟩
    · obtain ⟨k, x, hz, hkl, hx, hid⟩ := idxZ_some (f := fun x : PEdge => x.id) hE
      rw [hz]
      have HX := Lib.hid (findP_edge HN.out HSE.out hx hid)
      obtain ⟨ba, oa, ra, rfl, hSa, hba, hRa, hca⟩ := HE.out k x hx
      obtain ⟨pva, hba', a0, a1, a2, a3, a4, hpa⟩ := hRa.at hba (Grow.rfl' _) hca
      obtain ⟨pa, pc, rfl⟩ := hpa.isSlice
      have HPA := Lib.hid hpa
      have hk0 : decide ((0 : Int) ≤ (k : Int)) = true := by simp
      clear hE hz hx hid hca hRa hSa hba hpa
      go_wp2
      go_ret2
      exact ⟨.inr ⟨x.props, _, HX.out, rfl, HPA.out⟩, rfl⟩
  · obtain ⟨k, x, hz, hkl, hx, hid⟩ := idxZ_some (f := fun x : PNode => x.id) hN
    rw [hz]
    have HX := Lib.hid (findP_node HSN.out hx hid)
    obtain ⟨ba, oa, ra, rfl, hSa, hba, hRa, hca⟩ := HA.out k x hx
    obtain ⟨pva, hba', a0, a1, a2, hpa⟩ := hRa.at hba (Grow.rfl' _) hca
    obtain ⟨pa, pc, rfl⟩ := hpa.isSlice
    have HPA := Lib.hid hpa
    have hk0 : decide ((0 : Int) ≤ (k : Int)) = true := by simp
    clear hN hz hx hid hca hRa hSa hba hpa
    go_wp2
    go_ret2
    exact ⟨.inr ⟨x.props, _, HX.out, rfl, HPA.out⟩, rfl⟩
end Go.Hg
