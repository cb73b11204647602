/- hedgerowkeep.LargeProps, LargeGraph: what they let in. No condition. Printed by genlarge.py. -/
import Derived.Test.YtcokiflkjnekeaaLawA
namespace Go.Hg
open Go.RowKit Go.Proofs

set_option maxRecDepth 100000 in
set_option maxHeartbeats 1000000 in
theorem keepLargeProps (S : Nat → Prop) (v : Value) (l : List PProp) (w : World) (hl : PropsR S w v l) :
    Calls Try.prog 52 #[v] w fun e w' => ∃ b, e = .returned (.bool b) ∧ (b = false → l.length ≤ 60) ∧ Grow w w' := by
  obtain ⟨aa, ca, rfl, hal, hac, hA⟩ := SlR.open hl
  clear hl
  unfold maxLen at hac
  have HA := Lib.hid hA; clear hA
  by_cases h60 : 60 < l.length
  · have hd : decide ((60 : Int) < (l.length : Int)) = true := decide_eq_true (by omega)
    go_enter Try.func52, Try.ntmps52
    go_wp2
    go_ret
    exact ⟨true, rfl, by simp, Grow.rfl' w⟩
  · have hd : decide ((60 : Int) < (l.length : Int)) = false := decide_eq_false (by omega)
    have H60 := Lib.hid h60; clear h60
    go_enter Try.func52, Try.ntmps52
    go_wp2
    go_loopg [3] l.length (fun g i wr => ∃ k : Nat, k ≤ l.length ∧ g = l.length - k ∧ i = .int .i64 k ∧ Grow w wr)
    case atStart => exact ⟨0, by omega, by omega, rfl, Grow.rfl' w⟩
    case round =>
      obtain ⟨k, hk, rfl, rfl, hgr⟩ := hrel
      have HGR := Lib.hid hgr
      by_cases hkl : k < l.length
      · obtain ⟨ba, oa, ra, rfl, hSa, hba, hRa, hca⟩ := HA.out k l[k] (List.getElem?_eq_getElem hkl)
        obtain ⟨hba', a0, a1, a2, a3⟩ := hRa.at hba hgr hca
        clear hca hRa hSa hba hgr
        generalize l[k] = x at *
        cases ht : decide ((1000 : Int) < (x.name.size : Int))
        · go_wp2_with fail
          refine (keepLargeValue x.v _).mono ?_
          rintro e w2 ⟨rfl, hg⟩
          have HG := Lib.hid (HGR.out.step hg); clear hg
          cases hv : largeV x.v
          · go_wp2_with fail
            go_roundg (l.length - (k + 1))
            case measure => omega
            case rel => exact ⟨k + 1, by omega, rfl, by go_num, HG.out⟩
          · go_wp2
            go_ret
            exact ⟨true, rfl, by simp, HG.out⟩
        · go_wp2
          go_ret
          exact ⟨true, rfl, by simp, HGR.out⟩
      · clear hgr
        go_wp2
        go_ret
        exact ⟨false, rfl, fun _ => by have := H60.out; omega, HGR.out⟩

set_option maxRecDepth 100000 in
set_option maxHeartbeats 2000000 in
theorem keepLargeGraph (S : Nat → Prop) (nv ev : Value) (nodes : List PNode) (edges : List PEdge) (w : World) (hn : NodesR S w nv nodes) (he : EdgesR S w ev edges) :
    Calls Try.prog 25 #[nv, ev] w fun e w' => ∃ b, e = .returned (.bool b) ∧ (b = false → nodes.length ≤ 300 ∧ edges.length ≤ 300 ∧ (∀ x ∈ nodes, x.props.length ≤ 60) ∧ ∀ x ∈ edges, x.props.length ≤ 60) ∧ Grow w w' := by
  obtain ⟨na, nc, rfl, hnl, hnc, hN⟩ := SlR.open hn
  obtain ⟨ea, ec, rfl, hel, hec, hE⟩ := SlR.open he
  clear hn he
  unfold maxLen at hnc hec
  have HN := Lib.hid hN; have HE := Lib.hid hE; clear hN hE
  by_cases h1 : 300 < nodes.length
  · have hd : decide ((300 : Int) < (nodes.length : Int)) = true := decide_eq_true (by omega)
    go_enter Try.func25, Try.ntmps25
    go_wp2
    go_ret
    exact ⟨true, rfl, by simp, Grow.rfl' w⟩
  by_cases h2 : 300 < edges.length
  · have hd : decide ((300 : Int) < (nodes.length : Int)) = false := decide_eq_false (by omega)
    have hd2 : decide ((300 : Int) < (edges.length : Int)) = true := decide_eq_true (by omega)
    go_enter Try.func25, Try.ntmps25
    go_wp2
    go_ret
    exact ⟨true, rfl, by simp, Grow.rfl' w⟩
  · have hd : decide ((300 : Int) < (nodes.length : Int)) = false := decide_eq_false (by omega)
    have hd2 : decide ((300 : Int) < (edges.length : Int)) = false := decide_eq_false (by omega)
    have H1 := Lib.hid h1; have H2 := Lib.hid h2; clear h1 h2
    go_enter Try.func25, Try.ntmps25
    go_wp2
    go_loopg [5] nodes.length (fun g i wr => ∃ k : Nat, k ≤ nodes.length ∧ g = nodes.length - k ∧ i = .int .i64 k ∧ (∀ y ∈ nodes.take k, y.props.length ≤ 60) ∧ Grow w wr)
    case atStart => exact ⟨0, by omega, by omega, rfl, by simp, Grow.rfl' w⟩
    case round =>
      obtain ⟨k, hk, rfl, rfl, hall, hgr⟩ := hrel
      have HALL := Lib.hid hall; have HGR := Lib.hid hgr; clear hall
      by_cases hkl : k < nodes.length
      · obtain ⟨ba, oa, ra, rfl, hSa, hba, hRa, hca⟩ := HN.out k nodes[k] (List.getElem?_eq_getElem hkl)
        obtain ⟨pva, hba', a0, a1, a2, hpa⟩ := hRa.at hba hgr hca
        have HPA := Lib.hid hpa
        obtain ⟨pa, pc, rfl⟩ := hpa.isSlice
        clear hca hRa hSa hba hgr hpa
        have HT := Lib.hid (show nodes.take (k + 1) = nodes.take k ++ [nodes[k]] from List.take_succ_eq_append_getElem hkl)
        generalize nodes[k] = x at *
        cases ht : decide ((1000 : Int) < (x.typ.size : Int))
        · go_wp2_with fail
          refine (keepLargeProps S _ x.props _ HPA.out).mono ?_
          rintro e w2 ⟨b, rfl, hb, hg⟩
          have HG := Lib.hid (HGR.out.step hg); have HB := Lib.hid hb
          clear hg hb
          cases b
          · go_wp2_with fail
            go_roundg (nodes.length - (k + 1))
            case measure => omega
            case rel => exact ⟨k + 1, by omega, rfl, by go_num, by rw [HT.out]; intro y hy; rcases List.mem_append.1 hy with h | h; exact HALL.out y h; simp at h; subst h; exact HB.out (by trivial), HG.out⟩
          · go_wp2
            go_ret
            exact ⟨true, rfl, by simp, HG.out⟩
        · go_wp2
          go_ret
          exact ⟨true, rfl, by simp, HGR.out⟩
      · have hkn : nodes.take k = nodes := List.take_of_length_le (by omega)
        rw [hkn] at HALL
        have HALLN := HALL
        clear HALL hgr hkn
        go_wp2
        go_loopg [6] edges.length (fun g i wr => ∃ k : Nat, k ≤ edges.length ∧ g = edges.length - k ∧ i = .int .i64 k ∧ (∀ y ∈ edges.take k, y.props.length ≤ 60) ∧ Grow w wr)
        case atStart => exact ⟨0, by omega, by omega, rfl, by simp, HGR.out⟩
        case round =>
          obtain ⟨k, hk, rfl, rfl, hall, hgr⟩ := hrel
          have HALL := Lib.hid hall; have HGR := Lib.hid hgr; clear hall
          by_cases hkl : k < edges.length
          · obtain ⟨ba, oa, ra, rfl, hSa, hba, hRa, hca⟩ := HE.out k edges[k] (List.getElem?_eq_getElem hkl)
            obtain ⟨pva, hba', a0, a1, a2, a3, a4, hpa⟩ := hRa.at hba hgr hca
            have HPA := Lib.hid hpa
            obtain ⟨pa, pc, rfl⟩ := hpa.isSlice
            clear hca hRa hSa hba hgr hpa
            have HT := Lib.hid (show edges.take (k + 1) = edges.take k ++ [edges[k]] from List.take_succ_eq_append_getElem hkl)
            generalize edges[k] = x at *
            cases ht : decide ((1000 : Int) < (x.typ.size : Int))
            · go_wp2_with fail
              refine (keepLargeProps S _ x.props _ HPA.out).mono ?_
              rintro e w2 ⟨b, rfl, hb, hg⟩
              have HG := Lib.hid (HGR.out.step hg); have HB := Lib.hid hb
              clear hg hb
              cases b
              · go_wp2_with fail
                go_roundg (edges.length - (k + 1))
                case measure => omega
                case rel => exact ⟨k + 1, by omega, rfl, by go_num, by rw [HT.out]; intro y hy; rcases List.mem_append.1 hy with h | h; exact HALL.out y h; simp at h; subst h; exact HB.out (by trivial), HG.out⟩
              · go_wp2
                go_ret
                exact ⟨true, rfl, by simp, HG.out⟩
            · go_wp2
              go_ret
              exact ⟨true, rfl, by simp, HGR.out⟩
          · have hkn : edges.take k = edges := List.take_of_length_le (by omega)
            rw [hkn] at HALL
            clear hgr hkn
            go_wp2
            go_ret
            exact ⟨false, rfl, fun _ => ⟨by have := H1.out; omega, by have := H2.out; omega, HALLN.out, HALL.out⟩, HGR.out⟩
end Go.Hg
