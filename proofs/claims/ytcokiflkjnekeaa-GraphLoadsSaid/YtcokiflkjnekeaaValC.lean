/- val.Props, hedgerowref02.Props: whether properties are good. No condition. -/
import Derived.Test.YtcokiflkjnekeaaValB
import Derived.Test.YtcokiflkjnekeaaDeep
namespace Go.Hg
open Go.RowKit Go.Proofs

def ltS (a b : ByteArray) : Bool := Op.bytesLess a.toList b.toList
theorem bytesLess_tri : ∀ a b : List UInt8, (Op.bytesLess a b || decide (a = b)) = !(Op.bytesLess b a)
  | [], [] => by simp [Op.bytesLess]
  | [], b :: bs => by simp [Op.bytesLess]
  | a :: l, [] => by simp [Op.bytesLess]
  | a :: l, b :: bs => by
    have ih := bytesLess_tri l bs
    unfold Op.bytesLess
    by_cases h1 : a < b
    · have h2 : ¬ b < a := by
        rw [UInt8.lt_iff_toNat_lt] at *; omega
      have h3 : ¬ b = a := fun e => by subst e; exact h2 h1
      simp [h1, h2, h3]
    · by_cases h2 : b < a
      · have h3 : ¬ a = b := fun e => by subst e; exact h1 h2
        simp [h1, h2, h3]
      · have h3 : a = b := by
          rw [UInt8.lt_iff_toNat_lt] at *
          exact UInt8.toNat_inj.1 (by omega)
        subst h3
        simp [h1, ih]
theorem ltS_tri (a b : ByteArray) : (ltS a b || decide (a = b)) = !(ltS b a) := by
  have h := bytesLess_tri a.toList b.toList
  have e : decide (a = b) = decide (a.toList = b.toList) := by
    rw [← ba_beq]
    by_cases h : a.toList = b.toList
    · simp [h]
    · rw [decide_eq_false h]; exact beq_eq_false_iff_ne.2 h
  unfold ltS
  rw [e]; exact h

def PropOkAt (l : List PProp) (i : Nat) : Prop := ∀ p, l[i]? = some p → NameOk p.name ∧ GoodV p.v ∧ (0 < i → ∀ q, l[i - 1]? = some q → ltS q.name p.name = true)
def PropsOk (l : List PProp) : Prop := l.length ≤ 8 ∧ ∀ i, i < l.length → PropOkAt l i
open Classical in
noncomputable def propsB (l : List PProp) : Bool := decide (PropsOk l)
theorem propsB_true {l : List PProp} (h : PropsOk l) : propsB l = true := by unfold propsB; simp [h]
theorem propsB_false {l : List PProp} (h : ¬ PropsOk l) : propsB l = false := by unfold propsB; simp [h]
theorem propsB_iff {l : List PProp} : propsB l = true ↔ PropsOk l := by unfold propsB; simp

set_option maxRecDepth 100000 in
set_option maxHeartbeats 2000000 in
theorem refPropsOk (S : Nat → Prop) (v : Value) (l : List PProp) (w : World) (hl : PropsR S w v l) :
    Calls Try.prog 38 #[v] w fun e w' => e = .returned (.bool (propsB l)) ∧ Grow w w' := by
  obtain ⟨aa, ca, rfl, hal, hac, hA⟩ := SlR.open hl
  clear hl
  unfold maxLen at hac
  have HA := Lib.hid hA; clear hA
  by_cases h8 : l.length ≤ 8
  · have HX := Lib.hid (show (∀ i, i < l.length → PropOkAt l i) → propsB l = true from fun h => propsB_true ⟨h8, h⟩)
    have HY := Lib.hid (show ∀ i, i < l.length → ¬ PropOkAt l i → propsB l = false from fun i hi h => propsB_false fun hp => h (hp.2 i hi))
    go_enter Try.func38, Try.ntmps38
    go_wp2
    go_loopg [3] l.length (fun g i wr => ∃ k : Nat, k ≤ l.length ∧ g = l.length - k ∧ i = .int .i64 k ∧ (∀ i, i < k → PropOkAt l i) ∧ Grow w wr)
    case atStart => exact ⟨0, by omega, by omega, rfl, fun i h => by omega, Grow.rfl' w⟩
    case round =>
      obtain ⟨k, hk, rfl, rfl, hall, hgr⟩ := hrel
      have HALL := Lib.hid hall; clear hall
      by_cases hlt : k < l.length
      · obtain ⟨ba, oa, ra, rfl, hSa, hba, hRa, hca⟩ := HA.out k l[k] (List.getElem?_eq_getElem hlt)
        obtain ⟨hba', a0, a1, a2, a3⟩ := hRa.at hba hgr hca
        clear hca hRa hSa hba
        have HE := Lib.hid (show l[k]? = some l[k] from List.getElem?_eq_getElem hlt)
        generalize l[k] = p at *
        have HNX := Lib.hid (show PropOkAt l k → ∀ i, i < k + 1 → PropOkAt l i from fun h i hi => by
          by_cases e : i = k
          · subst e; exact h
          · exact HALL.out i (by omega))
        by_cases h0 : 0 < k
        · obtain ⟨bb, ob, rb, hob, hSb, hbb, hRb, hcb⟩ := HA.out (k - 1) l[k - 1] (List.getElem?_eq_getElem (by omega))
          cases hob
          obtain ⟨-, b0, -, -, -⟩ := hRb.at hbb hgr hcb
          have eo : oa + (k - 1) * 4 = oa + k * 4 - 4 := by omega
          clear hcb hRb hSb hbb
          have HQ := Lib.hid (show l[k - 1]? = some l[k - 1] from List.getElem?_eq_getElem (by omega))
          generalize l[k - 1] = q at *
          have HK := Lib.hid (show PropOkAt l k ↔ (NameOk p.name ∧ GoodV p.v ∧ ltS q.name p.name = true) from
            ⟨fun h => by obtain ⟨h1, h2, h3⟩ := h p HE.out; exact ⟨h1, h2, h3 h0 q HQ.out⟩, fun ⟨h1, h2, h3⟩ p' hp' => by
              rw [HE.out] at hp'; cases hp'
              exact ⟨h1, h2, fun _ q' hq' => by rw [HQ.out] at hq'; cases hq'; exact h3⟩⟩)
          clear HE HQ eo
          cases hn : decide (NameOk p.name) <;> cases hv : decide (GoodV p.v) <;> cases hs : Op.bytesLess q.name.toList p.name.toList
          all_goals
            go_wp2_with fail
            refine wp_region_grow (by kernel_rfl) (by kernel_rfl) ?_
            repeat (go_big_quiet_step (first | exact calls_gr ((refName p.name _).mono fun e w' ⟨he, hw⟩ => ⟨he, by subst hw; exact Grow.rfl' _⟩) | exact calls_gr (refGoodV p.v _)))
            refine wpQuiet_nil ?_
            intro w2 hw2
            go_wp2
          rotate_right 1
          · go_roundg (l.length - (k + 1))
            case measure => omega
            case rel => exact ⟨k + 1, by omega, rfl, by go_num, HNX.out (HK.out.2 ⟨of_decide_eq_true hn, of_decide_eq_true hv, hs⟩), hgr.step hw2⟩
          all_goals
            go_ret
            refine ⟨by rw [HY.out k hlt (fun h => by obtain ⟨h1, h2, h3⟩ := HK.out.1 h; first | exact of_decide_eq_false hn h1 | exact of_decide_eq_false hv h2 | (unfold ltS at h3; rw [hs] at h3; cases h3))]; rfl, hgr.step hw2⟩
        · have HK := Lib.hid (show PropOkAt l k ↔ (NameOk p.name ∧ GoodV p.v) from
            ⟨fun h => by obtain ⟨h1, h2, h3⟩ := h p HE.out; exact ⟨h1, h2⟩, fun ⟨h1, h2⟩ p' hp' => by
              rw [HE.out] at hp'; cases hp'
              exact ⟨h1, h2, fun h => by omega⟩⟩)
          have hd0 : decide ((0 : Int) < (k : Int)) = false := by simp; omega
          clear HE
          cases hn : decide (NameOk p.name) <;> cases hv : decide (GoodV p.v)
          all_goals
            go_wp2_with fail
            refine wp_region_grow (by kernel_rfl) (by kernel_rfl) ?_
            repeat (go_big_quiet_step (first | exact calls_gr ((refName p.name _).mono fun e w' ⟨he, hw⟩ => ⟨he, by subst hw; exact Grow.rfl' _⟩) | exact calls_gr (refGoodV p.v _)))
            refine wpQuiet_nil ?_
            intro w2 hw2
            go_wp2
          rotate_right 1
          · go_roundg (l.length - (k + 1))
            case measure => omega
            case rel => exact ⟨k + 1, by omega, rfl, by go_num, HNX.out (HK.out.2 ⟨of_decide_eq_true hn, of_decide_eq_true hv⟩), hgr.step hw2⟩
          all_goals
            go_ret
            refine ⟨by rw [HY.out k hlt (fun h => by obtain ⟨h1, h2⟩ := HK.out.1 h; first | exact of_decide_eq_false hn h1 | exact of_decide_eq_false hv h2)]; rfl, hgr.step hw2⟩
      · go_wp2
        go_ret
        exact ⟨by rw [HX.out (fun i hi => HALL.out i (by omega))]; rfl, hgr⟩
  · have HX := Lib.hid (show propsB l = false from propsB_false fun h => h8 h.1)
    have h1 : 8 < l.length := by omega
    go_enter Try.func38, Try.ntmps38
    go_wp2
    go_ret
    exact ⟨by rw [HX.out]; rfl, Grow.rfl' w⟩
set_option maxRecDepth 100000 in
set_option maxHeartbeats 2000000 in
theorem valPropsOk (S : Nat → Prop) (v : Value) (l : List PProp) (w : World) (hl : PropsR S w v l) :
    Calls Try.prog 76 #[v] w fun e w' => e = .returned (.bool (propsB l)) ∧ Grow w w' := by
  obtain ⟨aa, ca, rfl, hal, hac, hA⟩ := SlR.open hl
  clear hl
  unfold maxLen at hac
  have HA := Lib.hid hA; clear hA
  by_cases h8 : l.length ≤ 8
  · have HX := Lib.hid (show (∀ i, i < l.length → PropOkAt l i) → propsB l = true from fun h => propsB_true ⟨h8, h⟩)
    have HY := Lib.hid (show ∀ i, i < l.length → ¬ PropOkAt l i → propsB l = false from fun i hi h => propsB_false fun hp => h (hp.2 i hi))
    go_enter Try.func76, Try.ntmps76
    go_wp2
    go_loopg [10] l.length (fun g i wr => ∃ k : Nat, k ≤ l.length ∧ g = l.length - k ∧ i = .int .i64 k ∧ (∀ i, i < k → PropOkAt l i) ∧ Grow w wr)
    case atStart => exact ⟨0, by omega, by omega, rfl, fun i h => by omega, Grow.rfl' w⟩
    case round =>
      obtain ⟨k, hk, rfl, rfl, hall, hgr⟩ := hrel
      have HALL := Lib.hid hall; clear hall
      by_cases hlt : k < l.length
      · obtain ⟨ba, oa, ra, rfl, hSa, hba, hRa, hca⟩ := HA.out k l[k] (List.getElem?_eq_getElem hlt)
        obtain ⟨hba', a0, a1, a2, a3⟩ := hRa.at hba hgr hca
        clear hca hRa hSa hba
        have HE := Lib.hid (show l[k]? = some l[k] from List.getElem?_eq_getElem hlt)
        generalize l[k] = p at *
        have hba1 : ba < wr.heap.size + 1 := by omega
        have hgr2 : Grow w (wr.alloc (.cells #[.string p.name, .int .i64 p.v.kind, .int .i64 p.v.n, .string p.v.s] 54)) := hgr.allocd _
        have HNX := Lib.hid (show PropOkAt l k → ∀ i, i < k + 1 → PropOkAt l i from fun h i hi => by
          by_cases e : i = k
          · subst e; exact h
          · exact HALL.out i (by omega))
        by_cases h0 : 0 < k
        · obtain ⟨bb, ob, rb, hob, hSb, hbb, hRb, hcb⟩ := HA.out (k - 1) l[k - 1] (List.getElem?_eq_getElem (by omega))
          cases hob
          obtain ⟨-, b0, -, -, -⟩ := hRb.at hbb hgr hcb
          have eo : oa + (k - 1) * 4 = oa + k * 4 - 4 := by omega
          clear hcb hRb hSb hbb
          have HQ := Lib.hid (show l[k - 1]? = some l[k - 1] from List.getElem?_eq_getElem (by omega))
          generalize l[k - 1] = q at *
          have HK := Lib.hid (show PropOkAt l k ↔ (NameOk p.name ∧ GoodV p.v ∧ ltS q.name p.name = true) from
            ⟨fun h => by obtain ⟨h1, h2, h3⟩ := h p HE.out; exact ⟨h1, h2, h3 h0 q HQ.out⟩, fun ⟨h1, h2, h3⟩ p' hp' => by
              rw [HE.out] at hp'; cases hp'
              exact ⟨h1, h2, fun _ q' hq' => by rw [HQ.out] at hq'; cases hq'; exact h3⟩⟩)
          clear HE HQ eo
          have htri := ltS_tri p.name q.name
          unfold ltS at htri
          cases hn : decide (NameOk p.name) <;> cases hv : decide (GoodV p.v) <;> cases hs : Op.bytesLess q.name.toList p.name.toList
          all_goals rw [hs] at htri
          all_goals
            go_wp2_with fail
            refine wp_region_grow (by kernel_rfl) (by kernel_rfl) ?_
            repeat (go_big_quiet_step (first | exact calls_gr ((valName p.name _).mono fun e w' ⟨he, hw⟩ => ⟨he, by subst hw; exact Grow.rfl' _⟩) | exact calls_gr (valGood p.v _)))
            refine wpQuiet_nil ?_
            intro w2 hw2
            go_wp2
          rotate_right 1
          · go_roundg (l.length - (k + 1))
            case measure => omega
            case rel => exact ⟨k + 1, by omega, rfl, by go_num, HNX.out (HK.out.2 ⟨of_decide_eq_true hn, of_decide_eq_true hv, hs⟩), hgr2.step hw2⟩
          all_goals
            go_ret
            refine ⟨by rw [HY.out k hlt (fun h => by obtain ⟨h1, h2, h3⟩ := HK.out.1 h; first | exact of_decide_eq_false hn h1 | exact of_decide_eq_false hv h2 | (unfold ltS at h3; rw [hs] at h3; cases h3))]; rfl, hgr2.step hw2⟩
        · have HK := Lib.hid (show PropOkAt l k ↔ (NameOk p.name ∧ GoodV p.v) from
            ⟨fun h => by obtain ⟨h1, h2, h3⟩ := h p HE.out; exact ⟨h1, h2⟩, fun ⟨h1, h2⟩ p' hp' => by
              rw [HE.out] at hp'; cases hp'
              exact ⟨h1, h2, fun h => by omega⟩⟩)
          have hd0 : decide ((0 : Int) < (k : Int)) = false := by simp; omega
          clear HE
          cases hn : decide (NameOk p.name) <;> cases hv : decide (GoodV p.v)
          all_goals
            go_wp2_with fail
            refine wp_region_grow (by kernel_rfl) (by kernel_rfl) ?_
            repeat (go_big_quiet_step (first | exact calls_gr ((valName p.name _).mono fun e w' ⟨he, hw⟩ => ⟨he, by subst hw; exact Grow.rfl' _⟩) | exact calls_gr (valGood p.v _)))
            refine wpQuiet_nil ?_
            intro w2 hw2
            go_wp2
          rotate_right 1
          · go_roundg (l.length - (k + 1))
            case measure => omega
            case rel => exact ⟨k + 1, by omega, rfl, by go_num, HNX.out (HK.out.2 ⟨of_decide_eq_true hn, of_decide_eq_true hv⟩), hgr2.step hw2⟩
          all_goals
            go_ret
            refine ⟨by rw [HY.out k hlt (fun h => by obtain ⟨h1, h2⟩ := HK.out.1 h; first | exact of_decide_eq_false hn h1 | exact of_decide_eq_false hv h2)]; rfl, hgr2.step hw2⟩
      · go_wp2
        go_ret
        exact ⟨by rw [HX.out (fun i hi => HALL.out i (by omega))]; rfl, hgr⟩
  · have HX := Lib.hid (show propsB l = false from propsB_false fun h => h8 h.1)
    have h1 : 8 < l.length := by omega
    go_enter Try.func76, Try.ntmps76
    go_wp2
    go_ret
    exact ⟨by rw [HX.out]; rfl, Grow.rfl' w⟩
end Go.Hg
