/- hedgerowkeep.LargeRule, LargeCat, CopyCat. No condition. Printed by gencat.py. -/
import Derived.Test.YtcokiflkjnekeaaGreatKeepD
import Derived.Test.YtcokiflkjnekeaaGreatLawA
namespace Go.Hg
open Go.RowKit Go.Proofs

set_option maxRecDepth 100000 in
set_option maxHeartbeats 1000000 in
theorem keepLargeRule (x : PRule) (w : World) : Calls Tryz.prog 16 #[x.args] w fun e w' => ∃ b, e = .returned (.bool b) ∧ Grow w w' := by
  have HW := Lib.hid (show ∀ o1, Grow w (w.alloc o1) from fun o1 => (Grow.rfl' w).allocd o1)
  cases q1 : decide ((1000 : Int) < (x.typ.size : Int))
  rotate_left
  · go_enter Tryz.func16, Tryz.ntmps16
    go_wp2
    go_ret
    exact ⟨_, rfl, HW.out _⟩
  cases q2 : decide ((1000 : Int) < (x.name.size : Int))
  rotate_left
  · go_enter Tryz.func16, Tryz.ntmps16
    go_wp2
    go_ret
    exact ⟨_, rfl, HW.out _⟩
  cases q3 : decide ((1000 : Int) < (x.from_.size : Int))
  rotate_left
  · go_enter Tryz.func16, Tryz.ntmps16
    go_wp2
    go_ret
    exact ⟨_, rfl, HW.out _⟩
  · go_enter Tryz.func16, Tryz.ntmps16
    go_wp2
    go_ret
    exact ⟨_, rfl, HW.out _⟩

set_option maxRecDepth 100000 in
set_option maxHeartbeats 4000000 in
theorem keepLargeCat (S : Nat → Prop) (nv ev rv iv : Value) (c : PCat) (w : World) (hc : CatR S w nv ev rv iv c) :
    Calls Tryz.prog 4 #[c.arg nv ev rv iv] w fun e w' => ∃ b, e = .returned (.bool b) ∧ (b = false → c.nodes.length ≤ 100 ∧ c.edges.length ≤ 100 ∧ c.rules.length ≤ 100 ∧ c.indexes.length ≤ 100) ∧ Grow w w' := by
  obtain ⟨na, nc, ea, ec, ra, rc, ia, ic, rfl, rfl, rfl, rfl⟩ := hc.slices
  obtain ⟨_, _, hv, hnl, hnc, hN⟩ := SlR.open hc.1
  simp only [Value.slice.injEq, true_and] at hv
  obtain ⟨rfl, rfl⟩ := hv
  obtain ⟨_, _, hv, hel, hec, hE⟩ := SlR.open hc.2.1
  simp only [Value.slice.injEq, true_and] at hv
  obtain ⟨rfl, rfl⟩ := hv
  obtain ⟨_, _, hv, hrl, hrc, hR⟩ := SlR.open hc.2.2.1
  simp only [Value.slice.injEq, true_and] at hv
  obtain ⟨rfl, rfl⟩ := hv
  obtain ⟨_, _, hv, hil, hic, hI⟩ := SlR.open hc.2.2.2
  simp only [Value.slice.injEq, true_and] at hv
  obtain ⟨rfl, rfl⟩ := hv
  unfold maxLen at hnc hec hrc hic
  have HN := Lib.hid hN; have HE := Lib.hid hE; have HR := Lib.hid hR; have HI := Lib.hid hI
  have HW := Lib.hid (show ∀ o1, Grow w (w.alloc o1) from fun o1 => (Grow.rfl' w).allocd o1)
  have HNB := Lib.hid (heap_alloc_new w (.cells #[.slice na c.nodes.length nc, .slice ea c.edges.length ec, .slice ra c.rules.length rc, .slice ia c.indexes.length ic, .int .i64 c.nextRule] 26))
  have HX := Lib.hid (show ∀ w', Grow (w.alloc (.cells #[.slice na c.nodes.length nc, .slice ea c.edges.length ec, .slice ra c.rules.length rc, .slice ia c.indexes.length ic, .int .i64 c.nextRule] 26)) w' → w.heap.size < w'.heap.size ∧ w'.cell? ⟨w.heap.size, 0, none⟩ = some (.slice na c.nodes.length nc) ∧ w'.cell? ⟨w.heap.size, 1, none⟩ = some (.slice ea c.edges.length ec) ∧ w'.cell? ⟨w.heap.size, 2, none⟩ = some (.slice ra c.rules.length rc) ∧ w'.cell? ⟨w.heap.size, 3, none⟩ = some (.slice ia c.indexes.length ic) from fun w' hg => by
    have hx := (hg.heapEq (by simp)).trans HNB.out
    exact ⟨blk_lt hx, by rw [blk_cell hx]; rfl, by rw [blk_cell hx]; rfl, by rw [blk_cell hx]; rfl, by rw [blk_cell hx]; rfl⟩)
  clear hc hN hE hR hI
  cases q0 : decide ((100 : Int) < (c.nodes.length : Int))
  rotate_left
  · go_enter Tryz.func4, Tryz.ntmps4
    go_wp2
    go_ret
    exact ⟨true, rfl, by simp, HW.out _⟩
  cases q1 : decide ((100 : Int) < (c.edges.length : Int))
  rotate_left
  · go_enter Tryz.func4, Tryz.ntmps4
    go_wp2
    go_ret
    exact ⟨true, rfl, by simp, HW.out _⟩
  cases q2 : decide ((100 : Int) < (c.rules.length : Int))
  rotate_left
  · go_enter Tryz.func4, Tryz.ntmps4
    go_wp2
    go_ret
    exact ⟨true, rfl, by simp, HW.out _⟩
  cases q3 : decide ((100 : Int) < (c.indexes.length : Int))
  rotate_left
  · go_enter Tryz.func4, Tryz.ntmps4
    go_wp2
    go_ret
    exact ⟨true, rfl, by simp, HW.out _⟩
  go_enter Tryz.func4, Tryz.ntmps4
  go_wp2
  have HQ := Lib.hid (show c.nodes.length ≤ 100 ∧ c.edges.length ≤ 100 ∧ c.rules.length ≤ 100 ∧ c.indexes.length ≤ 100 by
    have h0 := of_decide_eq_false q0; have h1 := of_decide_eq_false q1; have h2 := of_decide_eq_false q2; have h3 := of_decide_eq_false q3
    omega)
  clear q0 q1 q2 q3
  go_loopg [3] c.nodes.length (fun g i wz => ∃ k : Nat, k ≤ c.nodes.length ∧ g = c.nodes.length - k ∧ i = .int .i64 k ∧ Grow (w.alloc (.cells #[.slice na c.nodes.length nc, .slice ea c.edges.length ec, .slice ra c.rules.length rc, .slice ia c.indexes.length ic, .int .i64 c.nextRule] 26)) wz)
  case atStart => exact ⟨0, by omega, by omega, rfl, Grow.rfl' _⟩
  case round =>
    obtain ⟨k, hk, rfl, rfl, hgr⟩ := hrel
    have HGRa := Lib.hid hgr
    have hgw := (HW.out _).step hgr
    obtain ⟨hxl, x0, x1, x2, x3⟩ := HX.out _ hgr
    by_cases hkl : k < c.nodes.length
    · obtain ⟨ba, oa, r1, rfl, hSa, hba, hRa, hca⟩ := HN.out k c.nodes[k] (List.getElem?_eq_getElem hkl)
      have ha2 : ba < wr.heap.size := Nat.lt_of_lt_of_le hba hgw.size
      have hca0 := (hgw.cell (p := ⟨ba, oa + k * 1 + 0, none⟩) hba).trans (hca 0 (.string c.nodes[k]) (by rw [show r1 = [.string c.nodes[k]] from hRa]; rfl))
      rw [Nat.mul_one, Nat.add_zero] at hca0
      clear hca hRa hSa hba hgr hgw
      generalize c.nodes[k] = x at *
      cases q : decide ((1000 : Int) < (x.size : Int))
      · go_wp2_with fail
        go_roundg (c.nodes.length - (k + 1))
        case measure => omega
        case rel => exact ⟨k + 1, by omega, rfl, by go_num, HGRa.out⟩
      · go_wp2
        go_ret
        exact ⟨true, rfl, by simp, (HW.out _).step HGRa.out⟩
    · clear hgr hgw
      go_wp2
      clear hxl x0 x1 x2 x3
      go_loopg [4] c.edges.length (fun g i wz => ∃ k : Nat, k ≤ c.edges.length ∧ g = c.edges.length - k ∧ i = .int .i64 k ∧ Grow (w.alloc (.cells #[.slice na c.nodes.length nc, .slice ea c.edges.length ec, .slice ra c.rules.length rc, .slice ia c.indexes.length ic, .int .i64 c.nextRule] 26)) wz)
      case atStart => exact ⟨0, by omega, by omega, rfl, HGRa.out⟩
      case round =>
        obtain ⟨k, hk, rfl, rfl, hgr⟩ := hrel
        have HGRb := Lib.hid hgr
        have hgw := (HW.out _).step hgr
        obtain ⟨hxl, x0, x1, x2, x3⟩ := HX.out _ hgr
        by_cases hkl : k < c.edges.length
        · obtain ⟨ba, oa, r1, rfl, hSa, hba, hRa, hca⟩ := HE.out k c.edges[k] (List.getElem?_eq_getElem hkl)
          have ha2 : ba < wr.heap.size := Nat.lt_of_lt_of_le hba hgw.size
          have hca0 := (hgw.cell (p := ⟨ba, oa + k * 1 + 0, none⟩) hba).trans (hca 0 (.string c.edges[k]) (by rw [show r1 = [.string c.edges[k]] from hRa]; rfl))
          rw [Nat.mul_one, Nat.add_zero] at hca0
          clear hca hRa hSa hba hgr hgw
          generalize c.edges[k] = x at *
          cases q : decide ((1000 : Int) < (x.size : Int))
          · go_wp2_with fail
            go_roundg (c.edges.length - (k + 1))
            case measure => omega
            case rel => exact ⟨k + 1, by omega, rfl, by go_num, HGRb.out⟩
          · go_wp2
            go_ret
            exact ⟨true, rfl, by simp, (HW.out _).step HGRb.out⟩
        · clear hgr hgw
          go_wp2
          clear hxl x0 x1 x2 x3
          go_loopg [5] c.rules.length (fun g i wz => ∃ k : Nat, k ≤ c.rules.length ∧ g = c.rules.length - k ∧ i = .int .i64 k ∧ Grow (w.alloc (.cells #[.slice na c.nodes.length nc, .slice ea c.edges.length ec, .slice ra c.rules.length rc, .slice ia c.indexes.length ic, .int .i64 c.nextRule] 26)) wz)
          case atStart => exact ⟨0, by omega, by omega, rfl, HGRb.out⟩
          case round =>
            obtain ⟨k, hk, rfl, rfl, hgr⟩ := hrel
            have HGRc := Lib.hid hgr
            have hgw := (HW.out _).step hgr
            obtain ⟨hxl, x0, x1, x2, x3⟩ := HX.out _ hgr
            by_cases hkl : k < c.rules.length
            · obtain ⟨ba, oa, r1, rfl, hSa, hba, hRa, hca⟩ := HR.out k c.rules[k] (List.getElem?_eq_getElem hkl)
              obtain ⟨ha0, a0, a1, a2, a3, a4, a5, a6, a7⟩ := ruleCells hRa hba hgw hca
              clear hca hRa hSa hba hgr hgw
              generalize c.rules[k] = x at *
              go_wp2_with fail
              refine (keepLargeRule x _).mono ?_
              rintro e w4 ⟨b, rfl, hg4⟩
              have HG4 := Lib.hid (HGRc.out.step hg4)
              clear hg4
              cases b
              · go_wp2_with fail
                go_roundg (c.rules.length - (k + 1))
                case measure => omega
                case rel => exact ⟨k + 1, by omega, rfl, by go_num, HG4.out⟩
              · go_wp2
                go_ret
                exact ⟨true, rfl, by simp, (HW.out _).step HG4.out⟩
            · clear hgr hgw
              go_wp2
              clear hxl x0 x1 x2 x3
              go_loopg [6] c.indexes.length (fun g i wz => ∃ k : Nat, k ≤ c.indexes.length ∧ g = c.indexes.length - k ∧ i = .int .i64 k ∧ Grow (w.alloc (.cells #[.slice na c.nodes.length nc, .slice ea c.edges.length ec, .slice ra c.rules.length rc, .slice ia c.indexes.length ic, .int .i64 c.nextRule] 26)) wz)
              case atStart => exact ⟨0, by omega, by omega, rfl, HGRc.out⟩
              case round =>
                obtain ⟨k, hk, rfl, rfl, hgr⟩ := hrel
                have HGRd := Lib.hid hgr
                have hgw := (HW.out _).step hgr
                obtain ⟨hxl, x0, x1, x2, x3⟩ := HX.out _ hgr
                by_cases hkl : k < c.indexes.length
                · obtain ⟨ba, oa, r1, rfl, hSa, hba, hRa, hca⟩ := HI.out k c.indexes[k] (List.getElem?_eq_getElem hkl)
                  obtain ⟨ha0, a0, a1⟩ := indexCells hRa hba hgw hca
                  clear hca hRa hSa hba hgr hgw
                  generalize c.indexes[k] = x at *
                  cases q1 : decide ((1000 : Int) < (x.typ.size : Int))
                  · cases q2 : decide ((1000 : Int) < (x.name.size : Int))
                    · go_wp2_with fail
                      go_roundg (c.indexes.length - (k + 1))
                      case measure => omega
                      case rel => exact ⟨k + 1, by omega, rfl, by go_num, HGRd.out⟩
                    · go_wp2
                      go_ret
                      exact ⟨true, rfl, by simp, (HW.out _).step HGRd.out⟩
                  · go_wp2
                    go_ret
                    exact ⟨true, rfl, by simp, (HW.out _).step HGRd.out⟩
                · clear hgr hgw
                  go_wp2
                  go_ret
                  exact ⟨false, rfl, fun _ => HQ.out, (HW.out _).step HGRd.out⟩

/-- a slice whose elements are rows of one size, to be appended -/
theorem SlR.rows {α : Type} {S : Nat → Prop} {w : World} {sz : Nat} {R : α → List Value → Prop} {v : Value} {l : List α} (h : SlR S w sz R v l) (hz : ∀ x r, R x r → r.length = sz) (h1 : ∀ x r, R x r → ∀ u ∈ r, u.oneCell' = true) :
    ∃ rows : List (List Value), rows.length = l.length ∧ (∀ (k : Nat) x r, l[k]? = some x → rows[k]? = some r → R x r ∧ r.length = sz) ∧ (∀ u ∈ rows.flatten, u.oneCell' = true) ∧ ∀ w', Grow w w' → Rd w' sz v l.length rows.flatten := by
  obtain ⟨a, cap, rows, rfl, hl, hc, hr, hR, h⟩ := h
  have hRR : ∀ (k : Nat) x r, l[k]? = some x → rows[k]? = some r → R x r ∧ r.length = sz := fun k x r hx hk => ⟨hR k x r hx hk, hz _ _ (hR k x r hx hk)⟩
  have hrz : ∀ r ∈ rows, r.length = sz := fun r hr' => by
    obtain ⟨k, hk⟩ := List.getElem?_of_mem hr'
    have hkl : k < l.length := by have := (List.getElem?_eq_some_iff.1 hk).1; omega
    exact (hRR k _ r (List.getElem?_eq_getElem hkl) hk).2
  refine ⟨rows, hr, hRR, fun u hu => ?_, fun w' hg => ⟨by rw [flatten_len _ sz hrz, hr], a, cap, rfl, ?_⟩⟩
  · obtain ⟨r, hr', hur⟩ := List.mem_flatten.1 hu
    obtain ⟨k, hk⟩ := List.getElem?_of_mem hr'
    have hkl : k < l.length := by have := (List.getElem?_eq_some_iff.1 hk).1; omega
    exact h1 _ _ (hR k _ r (List.getElem?_eq_getElem hkl) hk) u hur
  · by_cases h0 : l.length = 0
    · exact .inl h0
    · obtain ⟨b, off, rfl, -, hb, hcell⟩ := h (by omega)
      refine .inr ⟨_, rfl, fun j u hu => ?_⟩
      have hsz : 0 < sz := by
        rcases Nat.eq_zero_or_pos sz with hz0 | hz0
        · subst hz0
          have : rows.flatten.length = 0 := by rw [flatten_len _ 0 hrz]; omega
          have := (List.getElem?_eq_some_iff.1 hu).1
          omega
        · exact hz0
      have hjl : j < rows.length * sz := by have := (List.getElem?_eq_some_iff.1 hu).1; rwa [flatten_len _ sz hrz] at this
      have hk : j / sz < rows.length := Nat.div_lt_of_lt_mul (by rw [Nat.mul_comm]; exact hjl)
      have hm : j % sz < sz := Nat.mod_lt _ hsz
      have hrow : rows[j / sz]? = some rows[j / sz] := List.getElem?_eq_getElem hk
      have hlen := hrz _ (List.getElem_mem hk)
      have hel : rows[j / sz][j % sz]? = some (rows[j / sz][j % sz]'(by omega)) := List.getElem?_eq_getElem _
      have hf := flatten_at rows sz (j / sz) (j % sz) _ _ hrz hrow hel
      have hdm : j / sz * sz + j % sz = j := by rw [Nat.mul_comm]; exact Nat.div_add_mod j sz
      rw [hdm, hu] at hf
      have hc' := hcell (j / sz) _ (j % sz) _ hrow hel
      rw [Addr.add_lit, hg.cell (p := ⟨b, off + j, none⟩) hb, ← hdm, ← Nat.add_assoc, hc']
      exact hf.symm
theorem rows_own {α : Type} {w : World} {E : TypeId} {sz : Nat} {R : α → List Value → Prop} {v : Value} {l : List α} {rows : List (List Value)} {ob : Option Nat} (h1 : rows.length = l.length) (h2 : ∀ (k : Nat) x r, l[k]? = some x → rows[k]? = some r → R x r ∧ r.length = sz)
    (h : OwnS w E sz v l.length rows.flatten ob) : OwnL w E sz R v l ob := ⟨rows, h1, h2, h⟩
theorem infoStr : (Tryz.prog.info? 9).map (fun i => (i.zero, i.size, i.bytes)) = some (some (.string ByteArray.empty), 1, 16) := by kernel_rfl
theorem infoRule : (Tryz.prog.info? 52).map (fun i => (i.zero, i.size, i.bytes)) = some (some (.agg #[.int .i64 0, .int .i64 0, .string ByteArray.empty, .string ByteArray.empty, .string ByteArray.empty, .string ByteArray.empty, .int .i64 0, .int .i64 0]), 8, 96) := by kernel_rfl
theorem infoIndex : (Tryz.prog.info? 54).map (fun i => (i.zero, i.size, i.bytes)) = some (some (.agg #[.string ByteArray.empty, .string ByteArray.empty]), 2, 32) := by kernel_rfl
theorem oneStr : ∀ x r, RStr x r → ∀ u ∈ r, u.oneCell' = true := by
  rintro x r rfl u hu
  simp only [List.mem_cons, List.not_mem_nil, or_false] at hu
  subst hu; rfl
theorem oneRule : ∀ x r, RRule x r → ∀ u ∈ r, u.oneCell' = true := by
  rintro x r rfl u hu
  simp only [List.mem_cons, List.not_mem_nil, or_false] at hu
  rcases hu with rfl | rfl | rfl | rfl | rfl | rfl | rfl | rfl <;> rfl
theorem oneIndex : ∀ x r, RIndex x r → ∀ u ∈ r, u.oneCell' = true := by
  rintro x r rfl u hu
  simp only [List.mem_cons, List.not_mem_nil, or_false] at hu
  rcases hu with rfl | rfl <;> rfl
end Go.Hg
