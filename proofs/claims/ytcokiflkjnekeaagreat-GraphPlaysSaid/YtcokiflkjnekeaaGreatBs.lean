/- slices.BinarySearchFunc at nodes and edges by Id. No condition but rising Ids. -/
import Derived.Test.YtcokiflkjnekeaaGreatData
namespace Go.Hg
open Go.RowKit Go.Proofs

def cmp3 (a b : Int) : Int := if a < b then -1 else if b < a then 1 else 0
set_option maxHeartbeats 400000 in
theorem compareAny (a b : Int) (w : World) :
    Calls Tryz.prog 71 #[.int .i64 a, .int .i64 b] w fun e w' => e = .returned (.int .i64 (cmp3 a b)) ∧ w' = w := by
  go_enter Tryz.func71, Tryz.ntmps71
  go_wp2
  all_goals (go_ret; exact ⟨by simp [cmp3]; omega, rfl⟩)
set_option maxHeartbeats 400000 in
theorem node1 (x : PNode) (pv : Value) (a : Int) (w : World) (S : Nat → Prop) (hp : PropsR S w pv x.props) :
    Calls Tryz.prog 70 #[.agg #[.int .i64 x.id, .string x.typ, pv], .int .i64 a] w fun e w' => e = .returned (.int .i64 (cmp3 x.id a)) ∧ Grow w w' := by
  obtain ⟨_, _, rfl⟩ := hp.isSlice
  have hg : ∀ o1, Grow w (w.alloc o1) := fun o1 => (Grow.rfl' w).allocd o1
  clear hp
  go_enter Tryz.func70, Tryz.ntmps70
  go_wp2_with (go_at_call 71; refine (compareAny _ _ _).mono ?_; rintro e w' ⟨rfl, rfl⟩)
  go_ret
  exact ⟨rfl, hg _⟩
set_option maxHeartbeats 400000 in
theorem edge1 (x : PEdge) (pv : Value) (a : Int) (w : World) (S : Nat → Prop) (hp : PropsR S w pv x.props) :
    Calls Tryz.prog 88 #[.agg #[.int .i64 x.id, .string x.typ, .int .i64 x.from_, .int .i64 x.to_, pv], .int .i64 a] w fun e w' => e = .returned (.int .i64 (cmp3 x.id a)) ∧ Grow w w' := by
  obtain ⟨_, _, rfl⟩ := hp.isSlice
  have hg : ∀ o1, Grow w (w.alloc o1) := fun o1 => (Grow.rfl' w).allocd o1
  clear hp
  go_enter Tryz.func88, Tryz.ntmps88
  go_wp2_with (go_at_call 71; refine (compareAny _ _ _).mono ?_; rintro e w' ⟨rfl, rfl⟩)
  go_ret
  exact ⟨rfl, hg _⟩

/-- where an Id stands in rising Ids, and whether it does -/
def BsOk (ids : List Int) (id : Int) (i : Nat) (b : Bool) : Prop := i ≤ ids.length ∧ ((b = true ∧ ids.idxOf? id = some i) ∨ (b = false ∧ ids.idxOf? id = none))
theorem bs_end {ids : List Int} {id : Int} {i : Nat} (hs : ids.Pairwise (· < ·)) (hi : i ≤ ids.length) (hlo : ∀ t x, t < i → ids[t]? = some x → x < id) (hhi : ∀ t x, i ≤ t → ids[t]? = some x → id ≤ x) (b : Bool)
    (hb : b = true ↔ ids[i]? = some id) : BsOk ids id i b := by
  refine ⟨hi, ?_⟩
  cases b with
  | true =>
    refine .inl ⟨rfl, ?_⟩
    have h := hb.1 rfl
    obtain ⟨hl, he⟩ := List.getElem?_eq_some_iff.1 h
    unfold List.idxOf?
    rw [List.findIdx?_eq_some_iff_getElem]
    refine ⟨hl, by simp [he], fun j hj => ?_⟩
    have := hlo j _ hj (List.getElem?_eq_getElem (by omega))
    simp; omega
  | false =>
    refine .inr ⟨rfl, ?_⟩
    unfold List.idxOf?
    rw [List.findIdx?_eq_none_iff]
    intro x hx
    obtain ⟨k, hk, rfl⟩ := List.mem_iff_getElem.1 hx
    by_cases hki : k < i
    · have := hlo k _ hki (List.getElem?_eq_getElem hk); simp; omega
    · have h1 := hhi k _ (by omega) (List.getElem?_eq_getElem hk)
      by_cases e : ids[k] = id
      · exfalso
        have hlt : i < ids.length := by omega
        have h2 := hhi i _ (Nat.le_refl _) (List.getElem?_eq_getElem hlt)
        by_cases hik : i = k
        · subst hik
          exact absurd (hb.2 (by rw [List.getElem?_eq_getElem hk, e])) (by simp)
        · have h3 := List.pairwise_iff_getElem.1 hs i k hlt hk (by omega)
          omega
      · simpa using e

def BsPost (ids : List Int) (id : Int) (w : World) (e : Ending) (w' : World) : Prop := ∃ (i : Nat) (b : Bool), e = .returned (.tuple #[.int .i64 i, .bool b]) ∧ BsOk ids id i b ∧ Grow w w'
theorem BsPost.mk {ids : List Int} {id : Int} {w : World} {e : Ending} {w' : World} (i : Nat) (b : Bool) (h1 : e = .returned (.tuple #[.int .i64 i, .bool b])) (h2 : BsOk ids id i b) (h3 : Grow w w') : BsPost ids id w e w' := ⟨i, b, h1, h2, h3⟩

set_option maxRecDepth 100000 in
set_option maxHeartbeats 1000000 in
theorem bsNodes (S : Nat → Prop) (v : Value) (l : List PNode) (id : Int) (w : World) (hl : NodesR S w v l) (hs : (l.map (·.id)).Pairwise (· < ·)) (hb : l.length ≤ 1099511627776) :
    Calls Tryz.prog 69 #[v, .int .i64 id, .func (.func 70) #[] #[]] w (BsPost (l.map (·.id)) id w) := by
  obtain ⟨aa, ca, rfl, hal, hac, hA⟩ := SlR.open hl
  clear hl
  unfold maxLen at hac
  have HA := Lib.hid hA; clear hA
  have HS := Lib.hid hs; have HB := Lib.hid hb; clear hs hb
  go_enter Tryz.func69, Tryz.ntmps69
  go_wp2
  go_loopg [9, 10] l.length (fun g vi vj wr => ∃ i j : Nat, i ≤ j ∧ j ≤ l.length ∧ g = j - i ∧ vi = .int .i64 i ∧ vj = .int .i64 j ∧ (∀ t x, t < i → (l.map (·.id))[t]? = some x → x < id) ∧ (∀ t x, j ≤ t → (l.map (·.id))[t]? = some x → id ≤ x) ∧ Grow w wr)
  case atStart => exact ⟨0, l.length, by omega, by omega, by omega, rfl, rfl, fun t x h => by omega, fun t x h hx => by have := (List.getElem?_eq_some_iff.1 hx).1; simp at this; omega, Grow.rfl' w⟩
  case round =>
    obtain ⟨i, j, hij, hj, rfl, rfl, rfl, hlo, hhi, hgr⟩ := hrel
    have HLO := Lib.hid hlo; have HHI := Lib.hid hhi; clear hlo hhi
    by_cases hlt : i < j
    · obtain ⟨h, hh⟩ : ∃ h, h = (i + j) / 2 := ⟨_, rfl⟩
      have hb1 : i + j ≤ 2 ^ 62 := by have := HB.out; omega
      have hh1 : i ≤ h := by omega
      have hh2 : h < j := by omega
      have hhl : h < l.length := by omega
      obtain ⟨ba, oa, ra, rfl, hSa, hba, hRa, hca⟩ := HA.out h l[h] (List.getElem?_eq_getElem hhl)
      obtain ⟨pva, hba', a0, a1, a2, hpa⟩ := hRa.at hba hgr hca
      clear hca hRa hSa hba
      have HE := Lib.hid (show (l.map (·.id))[h]? = some l[h].id by rw [List.getElem?_map, List.getElem?_eq_getElem hhl]; rfl)
      generalize l[h] = x at *
      have HPA := Lib.hid hpa
      obtain ⟨_, _, rfl⟩ := hpa.isSlice
      clear hpa
      have HLT := Lib.hid (show x.id < id → ∀ t y, t < h + 1 → (l.map (·.id))[t]? = some y → y < id from fun hx t y ht hy => by
        by_cases e : t = h
        · subst e; rw [HE.out] at hy; cases hy; exact hx
        · obtain ⟨h1, h2⟩ := List.getElem?_eq_some_iff.1 hy
          obtain ⟨h3, h4⟩ := List.getElem?_eq_some_iff.1 HE.out
          have := List.pairwise_iff_getElem.1 HS.out t h h1 h3 (by omega)
          omega)
      have HGE := Lib.hid (show id ≤ x.id → ∀ t y, h ≤ t → (l.map (·.id))[t]? = some y → id ≤ y from fun hx t y ht hy => by
        by_cases e : t = h
        · subst e; rw [HE.out] at hy; cases hy; exact hx
        · obtain ⟨h1, h2⟩ := List.getElem?_eq_some_iff.1 hy
          obtain ⟨h3, h4⟩ := List.getElem?_eq_some_iff.1 HE.out
          have := List.pairwise_iff_getElem.1 HS.out h t h3 h1 (by omega)
          omega)
      subst hh
      by_cases hx : x.id < id
      · have hc : cmp3 x.id id = -1 := by unfold cmp3; rw [if_pos hx]
        go_wp2_with (go_at_call 70; (with_reducible refine (node1 x _ id _ S HPA.out).mono ?_); rintro e w2 ⟨rfl, hw2⟩; rw [hc])
        go_roundg (j - ((i + j) / 2 + 1))
        case measure => omega
        case rel => exact ⟨(i + j) / 2 + 1, j, by omega, hj, rfl, by go_num, rfl, HLT.out hx, HHI.out, hgr.step ‹_›⟩
      · have hc : ∃ c : Int, cmp3 x.id id = c ∧ 0 ≤ c := by
          unfold cmp3; rw [if_neg hx]; split
          · exact ⟨1, rfl, by omega⟩
          · exact ⟨0, rfl, by omega⟩
        obtain ⟨c, hc, hc0⟩ := hc
        go_wp2_with (go_at_call 70; (with_reducible refine (node1 x _ id _ S HPA.out).mono ?_); rintro e w2 ⟨rfl, hw2⟩; rw [hc])
        go_roundg ((i + j) / 2 - i)
        case measure => omega
        case rel => exact ⟨i, (i + j) / 2, by omega, by omega, rfl, rfl, by go_num, HLO.out, HGE.out (by omega), hgr.step ‹_›⟩
    · obtain rfl : i = j := by omega
      by_cases hil : i < l.length
      · obtain ⟨ba, oa, ra, rfl, hSa, hba, hRa, hca⟩ := HA.out i l[i] (List.getElem?_eq_getElem hil)
        obtain ⟨pva, hba', a0, a1, a2, hpa⟩ := hRa.at hba hgr hca
        clear hca hRa hSa hba
        have HE := Lib.hid (show (l.map (·.id))[i]? = some l[i].id by rw [List.getElem?_map, List.getElem?_eq_getElem hil]; rfl)
        generalize l[i] = x at *
        have HPA := Lib.hid hpa
        obtain ⟨_, _, rfl⟩ := hpa.isSlice
        clear hpa
        have HQ := Lib.hid (show (cmp3 x.id id == 0) = true ↔ (l.map (·.id))[i]? = some id by
          rw [HE.out]; unfold cmp3
          constructor
          · intro h; split at h
            · simp at h
            · split at h
              · simp at h
              · congr 1; omega
          · intro h; simp only [Option.some.injEq] at h; rw [h]; simp)
        go_wp2_with (go_at_call 70; (with_reducible refine (node1 x _ id _ S HPA.out).mono ?_); rintro e w2 ⟨rfl, hw2⟩)
        go_ret2
        exact BsPost.mk i _ rfl (bs_end HS.out (by simp; omega) HLO.out HHI.out _ HQ.out) (hgr.step ‹_›)
      · have HQ := Lib.hid (show false = true ↔ (l.map (·.id))[i]? = some id by
          rw [List.getElem?_eq_none (by simp; omega)]; simp)
        go_wp2_with fail
        go_ret2
        exact BsPost.mk i _ rfl (bs_end HS.out (by simp; omega) HLO.out HHI.out _ HQ.out) hgr
set_option maxRecDepth 100000 in
set_option maxHeartbeats 1000000 in
theorem bsEdges (S : Nat → Prop) (v : Value) (l : List PEdge) (id : Int) (w : World) (hl : EdgesR S w v l) (hs : (l.map (·.id)).Pairwise (· < ·)) (hb : l.length ≤ 1099511627776) :
    Calls Tryz.prog 87 #[v, .int .i64 id, .func (.func 88) #[] #[]] w (BsPost (l.map (·.id)) id w) := by
  obtain ⟨aa, ca, rfl, hal, hac, hA⟩ := SlR.open hl
  clear hl
  unfold maxLen at hac
  have HA := Lib.hid hA; clear hA
  have HS := Lib.hid hs; have HB := Lib.hid hb; clear hs hb
  go_enter Tryz.func87, Tryz.ntmps87
  go_wp2
  go_loopg [9, 10] l.length (fun g vi vj wr => ∃ i j : Nat, i ≤ j ∧ j ≤ l.length ∧ g = j - i ∧ vi = .int .i64 i ∧ vj = .int .i64 j ∧ (∀ t x, t < i → (l.map (·.id))[t]? = some x → x < id) ∧ (∀ t x, j ≤ t → (l.map (·.id))[t]? = some x → id ≤ x) ∧ Grow w wr)
  case atStart => exact ⟨0, l.length, by omega, by omega, by omega, rfl, rfl, fun t x h => by omega, fun t x h hx => by have := (List.getElem?_eq_some_iff.1 hx).1; simp at this; omega, Grow.rfl' w⟩
  case round =>
    obtain ⟨i, j, hij, hj, rfl, rfl, rfl, hlo, hhi, hgr⟩ := hrel
    have HLO := Lib.hid hlo; have HHI := Lib.hid hhi; clear hlo hhi
    by_cases hlt : i < j
    · obtain ⟨h, hh⟩ : ∃ h, h = (i + j) / 2 := ⟨_, rfl⟩
      have hb1 : i + j ≤ 2 ^ 62 := by have := HB.out; omega
      have hh1 : i ≤ h := by omega
      have hh2 : h < j := by omega
      have hhl : h < l.length := by omega
      obtain ⟨ba, oa, ra, rfl, hSa, hba, hRa, hca⟩ := HA.out h l[h] (List.getElem?_eq_getElem hhl)
      obtain ⟨pva, hba', a0, a1, a2, a3, a4, hpa⟩ := hRa.at hba hgr hca
      clear hca hRa hSa hba
      have HE := Lib.hid (show (l.map (·.id))[h]? = some l[h].id by rw [List.getElem?_map, List.getElem?_eq_getElem hhl]; rfl)
      generalize l[h] = x at *
      have HPA := Lib.hid hpa
      obtain ⟨_, _, rfl⟩ := hpa.isSlice
      clear hpa
      have HLT := Lib.hid (show x.id < id → ∀ t y, t < h + 1 → (l.map (·.id))[t]? = some y → y < id from fun hx t y ht hy => by
        by_cases e : t = h
        · subst e; rw [HE.out] at hy; cases hy; exact hx
        · obtain ⟨h1, h2⟩ := List.getElem?_eq_some_iff.1 hy
          obtain ⟨h3, h4⟩ := List.getElem?_eq_some_iff.1 HE.out
          have := List.pairwise_iff_getElem.1 HS.out t h h1 h3 (by omega)
          omega)
      have HGE := Lib.hid (show id ≤ x.id → ∀ t y, h ≤ t → (l.map (·.id))[t]? = some y → id ≤ y from fun hx t y ht hy => by
        by_cases e : t = h
        · subst e; rw [HE.out] at hy; cases hy; exact hx
        · obtain ⟨h1, h2⟩ := List.getElem?_eq_some_iff.1 hy
          obtain ⟨h3, h4⟩ := List.getElem?_eq_some_iff.1 HE.out
          have := List.pairwise_iff_getElem.1 HS.out h t h3 h1 (by omega)
          omega)
      subst hh
      by_cases hx : x.id < id
      · have hc : cmp3 x.id id = -1 := by unfold cmp3; rw [if_pos hx]
        go_wp2_with (go_at_call 88; (with_reducible refine (edge1 x _ id _ S HPA.out).mono ?_); rintro e w2 ⟨rfl, hw2⟩; rw [hc])
        go_roundg (j - ((i + j) / 2 + 1))
        case measure => omega
        case rel => exact ⟨(i + j) / 2 + 1, j, by omega, hj, rfl, by go_num, rfl, HLT.out hx, HHI.out, hgr.step ‹_›⟩
      · have hc : ∃ c : Int, cmp3 x.id id = c ∧ 0 ≤ c := by
          unfold cmp3; rw [if_neg hx]; split
          · exact ⟨1, rfl, by omega⟩
          · exact ⟨0, rfl, by omega⟩
        obtain ⟨c, hc, hc0⟩ := hc
        go_wp2_with (go_at_call 88; (with_reducible refine (edge1 x _ id _ S HPA.out).mono ?_); rintro e w2 ⟨rfl, hw2⟩; rw [hc])
        go_roundg ((i + j) / 2 - i)
        case measure => omega
        case rel => exact ⟨i, (i + j) / 2, by omega, by omega, rfl, rfl, by go_num, HLO.out, HGE.out (by omega), hgr.step ‹_›⟩
    · obtain rfl : i = j := by omega
      by_cases hil : i < l.length
      · obtain ⟨ba, oa, ra, rfl, hSa, hba, hRa, hca⟩ := HA.out i l[i] (List.getElem?_eq_getElem hil)
        obtain ⟨pva, hba', a0, a1, a2, a3, a4, hpa⟩ := hRa.at hba hgr hca
        clear hca hRa hSa hba
        have HE := Lib.hid (show (l.map (·.id))[i]? = some l[i].id by rw [List.getElem?_map, List.getElem?_eq_getElem hil]; rfl)
        generalize l[i] = x at *
        have HPA := Lib.hid hpa
        obtain ⟨_, _, rfl⟩ := hpa.isSlice
        clear hpa
        have HQ := Lib.hid (show (cmp3 x.id id == 0) = true ↔ (l.map (·.id))[i]? = some id by
          rw [HE.out]; unfold cmp3
          constructor
          · intro h; split at h
            · simp at h
            · split at h
              · simp at h
              · congr 1; omega
          · intro h; simp only [Option.some.injEq] at h; rw [h]; simp)
        go_wp2_with (go_at_call 88; (with_reducible refine (edge1 x _ id _ S HPA.out).mono ?_); rintro e w2 ⟨rfl, hw2⟩)
        go_ret2
        exact BsPost.mk i _ rfl (bs_end HS.out (by simp; omega) HLO.out HHI.out _ HQ.out) (hgr.step ‹_›)
      · have HQ := Lib.hid (show false = true ↔ (l.map (·.id))[i]? = some id by
          rw [List.getElem?_eq_none (by simp; omega)]; simp)
        go_wp2_with fail
        go_ret2
        exact BsPost.mk i _ rfl (bs_end HS.out (by simp; omega) HLO.out HHI.out _ HQ.out) hgr
end Go.Hg
