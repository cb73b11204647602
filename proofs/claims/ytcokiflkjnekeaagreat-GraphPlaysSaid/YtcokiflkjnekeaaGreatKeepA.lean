/- hedgerowkeep.Value, Props: whether two are alike. No condition. -/
import Derived.Test.YtcokiflkjnekeaaGreatData
namespace Go.Hg
open Go.RowKit Go.Proofs

set_option maxHeartbeats 400000 in
theorem keepValue (a b : PVal) (w : World) :
    Calls Tryz.prog 89 #[.agg #[.int .i64 a.kind, .int .i64 a.n, .string a.s], .agg #[.int .i64 b.kind, .int .i64 b.n, .string b.s]] w fun e w' => e = .returned (.bool (decide (a = b))) ∧ Grow w w' := by
  obtain ⟨k, n, s⟩ := a
  obtain ⟨k', n', s'⟩ := b
  have hg : ∀ o1 o2, Grow w ((w.alloc o1).alloc o2) := fun o1 o2 => ((Grow.rfl' w).allocd o1).allocd o2
  go_enter Tryz.func89, Tryz.ntmps89
  go_wp2
  all_goals
    go_ret
    refine ⟨?_, hg _ _⟩
    simp [*]

set_option maxHeartbeats 400000 in
theorem keepProps (Sa Sb : Nat → Prop) (va vb : Value) (a b : List PProp) (w : World) (ha : PropsR Sa w va a) (hb : PropsR Sb w vb b) :
    Calls Tryz.prog 67 #[va, vb] w fun e w' => e = .returned (.bool (decide (a = b))) ∧ Grow w w' := by
  obtain ⟨aa, ca, rfl, hal, hac, hA⟩ := SlR.open ha
  obtain ⟨ab, cb, rfl, hbl, hbc, hB⟩ := SlR.open hb
  clear ha hb
  unfold maxLen at hac hbc
  have HA := Lib.hid hA; clear hA
  have HB := Lib.hid hB; clear hB
  by_cases hlen : a.length = b.length
  · have HL := Lib.hid hlen
    go_enter Tryz.func67, Tryz.ntmps67
    go_wp2
    clear hlen
    go_loopg [5] b.length (fun g i wr => ∃ k : Nat, k ≤ b.length ∧ g = b.length - k ∧ i = .int .i64 k ∧ a.take k = b.take k ∧ Grow w wr)
    case atStart => exact ⟨0, by omega, by omega, rfl, by simp, Grow.rfl' w⟩
    case round =>
      obtain ⟨k, hk, rfl, rfl, htk, hgr⟩ := hrel
      have HT := Lib.hid htk; clear htk
      by_cases hlt : k < b.length
      · have hlt' : k < a.length := by have := HL.out; omega
        obtain ⟨ba, oa, ra, rfl, hSa, hba, hRa, hca⟩ := HA.out k a[k] (List.getElem?_eq_getElem hlt')
        obtain ⟨bb, ob, rb, rfl, hSb, hbb, hRb, hcb⟩ := HB.out k b[k] (List.getElem?_eq_getElem hlt)
        obtain ⟨hba', a0, a1, a2, a3⟩ := hRa.at hba hgr hca
        obtain ⟨hbb', b0, b1, b2, b3⟩ := hRb.at hbb hgr hcb
        clear hca hcb hRa hRb hSa hSb hba hbb
        have ea : a.take (k + 1) = a.take k ++ [a[k]] := List.take_succ_eq_append_getElem hlt'
        have eb : b.take (k + 1) = b.take k ++ [b[k]] := List.take_succ_eq_append_getElem hlt
        have EA := Lib.hid ea
        have EB := Lib.hid eb
        clear ea eb
        have hne : ¬ a[k] = b[k] → ¬ a = b := fun h e => h (by subst e; rfl)
        have HNE := Lib.hid hne; clear hne
        generalize a[k] = pa at *
        generalize b[k] = pb at *
        cases hn : decide (pa.name = pb.name)
        · go_wp2_with fail
          refine wp_region_grow (by kernel_rfl) (by kernel_rfl) ?_
          repeat (first | go_big_quiet_skip | (go_big_quiet_want; go_big_quiet_op; go_big_quiet_on))
          refine wpQuiet_nil ?_
          intro w2 hw2
          go_wp2
          go_ret
          exact ⟨by rw [decide_eq_false (HNE.out (fun h => of_decide_eq_false hn (by rw [h])))]; rfl, hgr.step hw2⟩
        · cases hv : decide (pa.v = pb.v)
          all_goals
            go_wp2_with fail
            refine wp_region_grow (by kernel_rfl) (by kernel_rfl) ?_
            repeat (first | go_big_quiet_skip | (go_big_quiet_want; go_big_quiet_op; first | go_big_quiet_on | (apply Exists.intro; refine ⟨fun g => ?_, ?_⟩; (exact calls_gr (keepValue pa.v pb.v _)); go_big_quiet_on)))
            refine wpQuiet_nil ?_
            intro w2 hw2
            go_wp2
          · go_ret
            exact ⟨by rw [decide_eq_false (HNE.out (fun h => of_decide_eq_false hv (by rw [h])))]; rfl, hgr.step hw2⟩
          · go_roundg (b.length - (k + 1))
            case measure => omega
            case rel => exact ⟨k + 1, by omega, rfl, by go_num, by rw [EA.out, EB.out, HT.out, show pa = pb by cases pa; cases pb; simp_all], hgr.step hw2⟩
      · have hlt' : ¬ k < a.length := by have := HL.out; omega
        have hk' : k = b.length := by omega
        have hx : a = b := by
          have h1 := HT.out
          rw [List.take_of_length_le (by omega), List.take_of_length_le (by omega)] at h1
          exact h1
        have HX := Lib.hid hx; clear hx hk'
        go_wp2
        go_ret
        exact ⟨by rw [HX.out]; simp, hgr⟩
  · have hx : ¬ a = b := fun e => hlen (by rw [e])
    have HX := Lib.hid hx; clear hx
    have h1 : ¬ ((a.length : Int) = (b.length : Int)) := by omega
    go_enter Tryz.func67, Tryz.ntmps67
    go_wp2
    go_ret
    exact ⟨by rw [decide_eq_false HX.out]; rfl, Grow.rfl' w⟩
end Go.Hg
