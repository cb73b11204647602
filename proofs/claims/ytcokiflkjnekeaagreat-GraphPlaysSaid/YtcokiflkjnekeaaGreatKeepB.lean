/- hedgerowkeep.Node, Edge, Nodes, Edges: whether two are alike. No condition. -/
import Derived.Test.YtcokiflkjnekeaaGreatKeepA
namespace Go.Hg
open Go.RowKit Go.Proofs

set_option maxHeartbeats 400000 in
theorem keepNode (Sa Sb : Nat → Prop) (a b : PNode) (pa pb : Value) (w : World) (ha : PropsR Sa w pa a.props) (hb : PropsR Sb w pb b.props) :
    Calls Tryz.prog 34 #[.agg #[.int .i64 a.id, .string a.typ, pa], .agg #[.int .i64 b.id, .string b.typ, pb]] w fun e w' => e = .returned (.bool (decide (a = b))) ∧ Grow w w' := by
  obtain ⟨i, t, p⟩ := a
  obtain ⟨i', t', p'⟩ := b
  have hg : ∀ o1 o2, Grow w ((w.alloc o1).alloc o2) := fun o1 o2 => ((Grow.rfl' w).allocd o1).allocd o2
  have KA := fun o1 o2 => PropsR.grow ha (hg o1 o2)
  have KB := fun o1 o2 => PropsR.grow hb (hg o1 o2)
  obtain ⟨aa, ca, rfl, -, -, -⟩ := SlR.open ha
  obtain ⟨ab, cb, rfl, -, -, -⟩ := SlR.open hb
  have HA := Lib.hid KA; have HB := Lib.hid KB; have HG := Lib.hid hg
  clear ha hb KA KB hg
  go_enter Tryz.func34, Tryz.ntmps34
  go_wp2_with (go_at_call 67; (with_reducible refine (keepProps Sa Sb _ _ p p' _ (HA.out _ _) (HB.out _ _)).mono ?_); rintro e w2 ⟨rfl, hw2⟩)
  all_goals
    go_ret
    refine ⟨?_, by first | exact HG.out _ _ | exact (HG.out _ _).step ‹_›⟩
    simp [*]

set_option maxHeartbeats 400000 in
theorem keepEdge (Sa Sb : Nat → Prop) (a b : PEdge) (pa pb : Value) (w : World) (ha : PropsR Sa w pa a.props) (hb : PropsR Sb w pb b.props) :
    Calls Tryz.prog 35 #[.agg #[.int .i64 a.id, .string a.typ, .int .i64 a.from_, .int .i64 a.to_, pa], .agg #[.int .i64 b.id, .string b.typ, .int .i64 b.from_, .int .i64 b.to_, pb]] w fun e w' => e = .returned (.bool (decide (a = b))) ∧ Grow w w' := by
  obtain ⟨i, t, f, o, p⟩ := a
  obtain ⟨i', t', f', o', p'⟩ := b
  have hg : ∀ o1 o2, Grow w ((w.alloc o1).alloc o2) := fun o1 o2 => ((Grow.rfl' w).allocd o1).allocd o2
  have KA := fun o1 o2 => PropsR.grow ha (hg o1 o2)
  have KB := fun o1 o2 => PropsR.grow hb (hg o1 o2)
  obtain ⟨aa, ca, rfl, -, -, -⟩ := SlR.open ha
  obtain ⟨ab, cb, rfl, -, -, -⟩ := SlR.open hb
  have HA := Lib.hid KA; have HB := Lib.hid KB; have HG := Lib.hid hg
  clear ha hb KA KB hg
  go_enter Tryz.func35, Tryz.ntmps35
  go_wp2_with (go_at_call 67; (with_reducible refine (keepProps Sa Sb _ _ p p' _ (HA.out _ _) (HB.out _ _)).mono ?_); rintro e w2 ⟨rfl, hw2⟩)
  all_goals
    go_ret
    refine ⟨?_, by first | exact HG.out _ _ | exact (HG.out _ _).step ‹_›⟩
    simp [*]

set_option maxHeartbeats 400000 in
theorem keepNodes (Sa Sb : Nat → Prop) (va vb : Value) (a b : List PNode) (w : World) (ha : NodesR Sa w va a) (hb : NodesR Sb w vb b) :
    Calls Tryz.prog 29 #[va, vb] w fun e w' => e = .returned (.bool (decide (a = b))) ∧ Grow w w' := by
  obtain ⟨aa, ca, rfl, hal, hac, hA⟩ := SlR.open ha
  obtain ⟨ab, cb, rfl, hbl, hbc, hB⟩ := SlR.open hb
  clear ha hb
  unfold maxLen at hac hbc
  have HA := Lib.hid hA; clear hA
  have HB := Lib.hid hB; clear hB
  by_cases hlen : a.length = b.length
  · have HL := Lib.hid hlen
    go_enter Tryz.func29, Tryz.ntmps29
    go_wp2
    clear hlen
    go_loopg [5] b.length (fun g i wr => ∃ k : Nat, k ≤ b.length ∧ g = b.length - k ∧ i = .int .i64 k ∧ a.take k = b.take k ∧ Grow w wr)
    case atStart => exact ⟨0, by omega, by omega, rfl, by simp, Grow.rfl' w⟩
    case round =>
      obtain ⟨k, hk, rfl, rfl, htk, hgr⟩ := hrel
      have HT := Lib.hid htk; clear htk
      by_cases hlt : k < b.length
      · have hlt' : k < a.length := by have := HL.out; omega
        obtain ⟨ba, oa, ra, rfl, hSa, hba, hRa, hca⟩ := HA.out k a[k] (List.getElem?_eq_getElem hlt')
        obtain ⟨bb, ob, rb, rfl, hSb, hbb, hRb, hcb⟩ := HB.out k b[k] (List.getElem?_eq_getElem hlt)
        obtain ⟨pva, hba', a0, a1, a2, hpa⟩ := hRa.at hba hgr hca
        obtain ⟨pvb, hbb', b0, b1, b2, hpb⟩ := hRb.at hbb hgr hcb
        clear hca hcb hRa hRb hSa hSb hba hbb
        have ea : a.take (k + 1) = a.take k ++ [a[k]] := List.take_succ_eq_append_getElem hlt'
        have eb : b.take (k + 1) = b.take k ++ [b[k]] := List.take_succ_eq_append_getElem hlt
        have EA := Lib.hid ea
        have EB := Lib.hid eb
        clear ea eb
        have hne : ¬ a[k] = b[k] → ¬ a = b := fun h e => h (by subst e; rfl)
        have HNE := Lib.hid hne; clear hne
        generalize a[k] = na at *
        generalize b[k] = nb at *
        have HPA := Lib.hid hpa
        have HPB := Lib.hid hpb
        obtain ⟨_, _, rfl⟩ := hpa.isSlice
        obtain ⟨_, _, rfl⟩ := hpb.isSlice
        clear hpa hpb
        cases hv : decide (na = nb)
        all_goals
          go_wp2_with fail
          refine wp_region_grow (by kernel_rfl) (by kernel_rfl) ?_
          repeat (go_big_quiet_step (exact calls_gr (keepNode Sa Sb na nb _ _ _ (HPA.out.grow (by rename_i g; exact g.h)) (HPB.out.grow (by rename_i g; exact g.h)))))
          refine wpQuiet_nil ?_
          intro w2 hw2
          go_wp2
        · go_ret
          exact ⟨by rw [decide_eq_false (HNE.out (of_decide_eq_false hv))]; rfl, hgr.step hw2⟩
        · go_roundg (b.length - (k + 1))
          case measure => omega
          case rel => exact ⟨k + 1, by omega, rfl, by go_num, by rw [EA.out, EB.out, HT.out, of_decide_eq_true hv], hgr.step hw2⟩
      · have hlt' : ¬ k < a.length := by have := HL.out; omega
        have hk' : k = b.length := by omega
        have hx : a = b := by
          have h1 := HT.out
          rw [List.take_of_length_le (by omega), List.take_of_length_le (by omega)] at h1
          exact h1
        have HX := Lib.hid hx; clear hx hk'
        go_wp2
        go_ret
        exact ⟨by rw [HX.out]; simp, hgr⟩
  · have hx : ¬ a = b := fun e => hlen (by rw [e])
    have HX := Lib.hid hx; clear hx
    have h1 : ¬ ((a.length : Int) = (b.length : Int)) := by omega
    go_enter Tryz.func29, Tryz.ntmps29
    go_wp2
    go_ret
    exact ⟨by rw [decide_eq_false HX.out]; rfl, Grow.rfl' w⟩

set_option maxHeartbeats 400000 in
theorem keepEdges (Sa Sb : Nat → Prop) (va vb : Value) (a b : List PEdge) (w : World) (ha : EdgesR Sa w va a) (hb : EdgesR Sb w vb b) :
    Calls Tryz.prog 31 #[va, vb] w fun e w' => e = .returned (.bool (decide (a = b))) ∧ Grow w w' := by
  obtain ⟨aa, ca, rfl, hal, hac, hA⟩ := SlR.open ha
  obtain ⟨ab, cb, rfl, hbl, hbc, hB⟩ := SlR.open hb
  clear ha hb
  unfold maxLen at hac hbc
  have HA := Lib.hid hA; clear hA
  have HB := Lib.hid hB; clear hB
  by_cases hlen : a.length = b.length
  · have HL := Lib.hid hlen
    go_enter Tryz.func31, Tryz.ntmps31
    go_wp2
    clear hlen
    go_loopg [5] b.length (fun g i wr => ∃ k : Nat, k ≤ b.length ∧ g = b.length - k ∧ i = .int .i64 k ∧ a.take k = b.take k ∧ Grow w wr)
    case atStart => exact ⟨0, by omega, by omega, rfl, by simp, Grow.rfl' w⟩
    case round =>
      obtain ⟨k, hk, rfl, rfl, htk, hgr⟩ := hrel
      have HT := Lib.hid htk; clear htk
      by_cases hlt : k < b.length
      · have hlt' : k < a.length := by have := HL.out; omega
        obtain ⟨ba, oa, ra, rfl, hSa, hba, hRa, hca⟩ := HA.out k a[k] (List.getElem?_eq_getElem hlt')
        obtain ⟨bb, ob, rb, rfl, hSb, hbb, hRb, hcb⟩ := HB.out k b[k] (List.getElem?_eq_getElem hlt)
        obtain ⟨pva, hba', a0, a1, a2, a3, a4, hpa⟩ := hRa.at hba hgr hca
        obtain ⟨pvb, hbb', b0, b1, b2, b3, b4, hpb⟩ := hRb.at hbb hgr hcb
        clear hca hcb hRa hRb hSa hSb hba hbb
        have ea : a.take (k + 1) = a.take k ++ [a[k]] := List.take_succ_eq_append_getElem hlt'
        have eb : b.take (k + 1) = b.take k ++ [b[k]] := List.take_succ_eq_append_getElem hlt
        have EA := Lib.hid ea
        have EB := Lib.hid eb
        clear ea eb
        have hne : ¬ a[k] = b[k] → ¬ a = b := fun h e => h (by subst e; rfl)
        have HNE := Lib.hid hne; clear hne
        generalize a[k] = na at *
        generalize b[k] = nb at *
        have HPA := Lib.hid hpa
        have HPB := Lib.hid hpb
        obtain ⟨_, _, rfl⟩ := hpa.isSlice
        obtain ⟨_, _, rfl⟩ := hpb.isSlice
        clear hpa hpb
        cases hv : decide (na = nb)
        all_goals
          go_wp2_with fail
          refine wp_region_grow (by kernel_rfl) (by kernel_rfl) ?_
          repeat (go_big_quiet_step (exact calls_gr (keepEdge Sa Sb na nb _ _ _ (HPA.out.grow (by rename_i g; exact g.h)) (HPB.out.grow (by rename_i g; exact g.h)))))
          refine wpQuiet_nil ?_
          intro w2 hw2
          go_wp2
        · go_ret
          exact ⟨by rw [decide_eq_false (HNE.out (of_decide_eq_false hv))]; rfl, hgr.step hw2⟩
        · go_roundg (b.length - (k + 1))
          case measure => omega
          case rel => exact ⟨k + 1, by omega, rfl, by go_num, by rw [EA.out, EB.out, HT.out, of_decide_eq_true hv], hgr.step hw2⟩
      · have hlt' : ¬ k < a.length := by have := HL.out; omega
        have hk' : k = b.length := by omega
        have hx : a = b := by
          have h1 := HT.out
          rw [List.take_of_length_le (by omega), List.take_of_length_le (by omega)] at h1
          exact h1
        have HX := Lib.hid hx; clear hx hk'
        go_wp2
        go_ret
        exact ⟨by rw [HX.out]; simp, hgr⟩
  · have hx : ¬ a = b := fun e => hlen (by rw [e])
    have HX := Lib.hid hx; clear hx
    have h1 : ¬ ((a.length : Int) = (b.length : Int)) := by omega
    go_enter Tryz.func31, Tryz.ntmps31
    go_wp2
    go_ret
    exact ⟨by rw [decide_eq_false HX.out]; rfl, Grow.rfl' w⟩

end Go.Hg
