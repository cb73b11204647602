/- hedgerowkeep.Longs, Texts, Rule, Cats of equal ones: true. No condition. Printed by gencat.py. -/
import Derived.Test.YtcokiflkjnekeaaGreatScan
import Derived.Test.YtcokiflkjnekeaaGreatCat
namespace Go.Hg
open Go.RowKit Go.Proofs

set_option maxRecDepth 100000 in
set_option maxHeartbeats 1000000 in
theorem keepLongsEq (Sa Sb : Nat → Prop) (va vb : Value) (l : List Int) (w : World) (ha : IdsR Sa w va l) (hb : IdsR Sb w vb l) :
    Calls Tryz.prog 36 #[va, vb] w fun e w' => e = .returned (.bool true) ∧ Grow w w' := by
  obtain ⟨aa, ca, rfl, hal, hac, hA⟩ := SlR.open ha
  obtain ⟨ab, cb, rfl, hbl, hbc, hB⟩ := SlR.open hb
  clear ha hb
  unfold maxLen at hac hbc
  have HA := Lib.hid hA; have HB := Lib.hid hB; clear hA hB
  go_enter Tryz.func36, Tryz.ntmps36
  go_wp2
  go_loopg [5] l.length (fun g i wr => ∃ k : Nat, k ≤ l.length ∧ g = l.length - k ∧ i = .int .i64 k ∧ Grow w wr)
  case atStart => exact ⟨0, by omega, by omega, rfl, Grow.rfl' w⟩
  case round =>
    obtain ⟨k, hk, rfl, rfl, hgr⟩ := hrel
    have HGR := Lib.hid hgr
    by_cases hkl : k < l.length
    · obtain ⟨ba, oa, ra, rfl, hSa, hba, hRa, hca⟩ := HA.out k l[k] (List.getElem?_eq_getElem hkl)
      obtain ⟨bb, ob, rb, rfl, hSb, hbb, hRb, hcb⟩ := HB.out k l[k] (List.getElem?_eq_getElem hkl)
      have ha2 : ba < wr.heap.size := Nat.lt_of_lt_of_le hba hgr.size
      have hb2 : bb < wr.heap.size := Nat.lt_of_lt_of_le hbb hgr.size
      have hca0 := (hgr.cell (p := ⟨ba, oa + k * 1 + 0, none⟩) hba).trans (hca 0 (.int .i64 l[k]) (by rw [show ra = [.int .i64 l[k]] from hRa]; rfl))
      have hcb0 := (hgr.cell (p := ⟨bb, ob + k * 1 + 0, none⟩) hbb).trans (hcb 0 (.int .i64 l[k]) (by rw [show rb = [.int .i64 l[k]] from hRb]; rfl))
      rw [Nat.mul_one, Nat.add_zero] at hca0 hcb0
      clear hca hcb hRa hRb hSa hSb hba hbb hgr
      generalize l[k] = x at *
      go_wp2_with fail
      refine wp_region_grow (by kernel_rfl) (by kernel_rfl) ?_
      repeat (go_big_quiet_step (fail))
      refine wpQuiet_nil ?_
      intro w2 hw2
      go_wp2_with fail
      go_roundg (l.length - (k + 1))
      case measure => omega
      case rel => exact ⟨k + 1, by omega, rfl, by go_num, HGR.out.step hw2⟩
    · clear hgr
      go_wp2
      go_ret
      exact ⟨rfl, HGR.out⟩

set_option maxRecDepth 100000 in
set_option maxHeartbeats 1000000 in
theorem keepTextsEq (Sa Sb : Nat → Prop) (va vb : Value) (l : List ByteArray) (w : World) (ha : StrsR Sa w va l) (hb : StrsR Sb w vb l) :
    Calls Tryz.prog 42 #[va, vb] w fun e w' => e = .returned (.bool true) ∧ Grow w w' := by
  obtain ⟨aa, ca, rfl, hal, hac, hA⟩ := SlR.open ha
  obtain ⟨ab, cb, rfl, hbl, hbc, hB⟩ := SlR.open hb
  clear ha hb
  unfold maxLen at hac hbc
  have HA := Lib.hid hA; have HB := Lib.hid hB; clear hA hB
  go_enter Tryz.func42, Tryz.ntmps42
  go_wp2
  go_loopg [5] l.length (fun g i wr => ∃ k : Nat, k ≤ l.length ∧ g = l.length - k ∧ i = .int .i64 k ∧ Grow w wr)
  case atStart => exact ⟨0, by omega, by omega, rfl, Grow.rfl' w⟩
  case round =>
    obtain ⟨k, hk, rfl, rfl, hgr⟩ := hrel
    have HGR := Lib.hid hgr
    by_cases hkl : k < l.length
    · obtain ⟨ba, oa, ra, rfl, hSa, hba, hRa, hca⟩ := HA.out k l[k] (List.getElem?_eq_getElem hkl)
      obtain ⟨bb, ob, rb, rfl, hSb, hbb, hRb, hcb⟩ := HB.out k l[k] (List.getElem?_eq_getElem hkl)
      have ha2 : ba < wr.heap.size := Nat.lt_of_lt_of_le hba hgr.size
      have hb2 : bb < wr.heap.size := Nat.lt_of_lt_of_le hbb hgr.size
      have hca0 := (hgr.cell (p := ⟨ba, oa + k * 1 + 0, none⟩) hba).trans (hca 0 (.string l[k]) (by rw [show ra = [.string l[k]] from hRa]; rfl))
      have hcb0 := (hgr.cell (p := ⟨bb, ob + k * 1 + 0, none⟩) hbb).trans (hcb 0 (.string l[k]) (by rw [show rb = [.string l[k]] from hRb]; rfl))
      rw [Nat.mul_one, Nat.add_zero] at hca0 hcb0
      clear hca hcb hRa hRb hSa hSb hba hbb hgr
      generalize l[k] = x at *
      go_wp2_with fail
      refine wp_region_grow (by kernel_rfl) (by kernel_rfl) ?_
      repeat (go_big_quiet_step (fail))
      refine wpQuiet_nil ?_
      intro w2 hw2
      go_wp2_with fail
      go_roundg (l.length - (k + 1))
      case measure => omega
      case rel => exact ⟨k + 1, by omega, rfl, by go_num, HGR.out.step hw2⟩
    · clear hgr
      go_wp2
      go_ret
      exact ⟨rfl, HGR.out⟩

abbrev PRule.args (x : PRule) : Value := .agg #[.int .i64 x.id, .int .i64 x.kind, .string x.typ, .string x.name, .string x.from_, .string x.to_, .int .i64 x.n, .int .i64 x.state]
set_option maxRecDepth 100000 in
set_option maxHeartbeats 1000000 in
theorem keepRuleEq (x : PRule) (w : World) : Calls Tryz.prog 43 #[x.args, x.args] w fun e w' => e = .returned (.bool true) ∧ Grow w w' := by
  have HW := Lib.hid (show ∀ o1 o2, Grow w ((w.alloc o1).alloc o2) from fun o1 o2 => ((Grow.rfl' w).allocd o1).allocd o2)
  go_enter Tryz.func43, Tryz.ntmps43
  go_wp2
  go_ret
  exact ⟨rfl, HW.out _ _⟩
theorem ruleCells {w wr : World} {x : PRule} {r : List Value} {b o : Nat} (h : RRule x r) (hb : b < w.heap.size) (g : Grow w wr) (hc : ∀ (j : Nat) c, r[j]? = some c → w.cell? ⟨b, o + j, none⟩ = some c) :
    b < wr.heap.size ∧ wr.cell? ⟨b, o, none⟩ = some (.int .i64 x.id) ∧ wr.cell? ⟨b, o + 1, none⟩ = some (.int .i64 x.kind) ∧ wr.cell? ⟨b, o + 2, none⟩ = some (.string x.typ) ∧ wr.cell? ⟨b, o + 3, none⟩ = some (.string x.name) ∧ wr.cell? ⟨b, o + 4, none⟩ = some (.string x.from_) ∧ wr.cell? ⟨b, o + 5, none⟩ = some (.string x.to_) ∧ wr.cell? ⟨b, o + 6, none⟩ = some (.int .i64 x.n) ∧ wr.cell? ⟨b, o + 7, none⟩ = some (.int .i64 x.state) := by
  unfold RRule at h
  subst h
  have e : ∀ o', wr.cell? ⟨b, o', none⟩ = w.cell? ⟨b, o', none⟩ := fun o' => World.cell?_of_block (w := w) (g.heapEq hb)
  have hs := g.size
  refine ⟨by omega, ?_, ?_, ?_, ?_, ?_, ?_, ?_, ?_⟩ <;> rw [e]
  · exact hc 0 _ rfl
  · exact hc 1 _ rfl
  · exact hc 2 _ rfl
  · exact hc 3 _ rfl
  · exact hc 4 _ rfl
  · exact hc 5 _ rfl
  · exact hc 6 _ rfl
  · exact hc 7 _ rfl
theorem indexCells {w wr : World} {x : PIndex} {r : List Value} {b o : Nat} (h : RIndex x r) (hb : b < w.heap.size) (g : Grow w wr) (hc : ∀ (j : Nat) c, r[j]? = some c → w.cell? ⟨b, o + j, none⟩ = some c) :
    b < wr.heap.size ∧ wr.cell? ⟨b, o, none⟩ = some (.string x.typ) ∧ wr.cell? ⟨b, o + 1, none⟩ = some (.string x.name) := by
  unfold RIndex at h
  subst h
  have e : ∀ o', wr.cell? ⟨b, o', none⟩ = w.cell? ⟨b, o', none⟩ := fun o' => World.cell?_of_block (w := w) (g.heapEq hb)
  have hs := g.size
  refine ⟨by omega, ?_, ?_⟩ <;> rw [e]
  · exact hc 0 _ rfl
  · exact hc 1 _ rfl
theorem boxes2 (w : World) (nv ev rv iv nv' ev' rv' iv' : Value) (n n' : Int) (T : TypeId) : (∀ w', Grow ((w.alloc (.cells #[nv, ev, rv, iv, .int .i64 n] T)).alloc (.cells #[nv', ev', rv', iv', .int .i64 n'] T)) w' → w'.heap[w.heap.size]? = some (.cells #[nv, ev, rv, iv, .int .i64 n] T (0, 0))) ∧
    (∀ w', Grow ((w.alloc (.cells #[nv, ev, rv, iv, .int .i64 n] T)).alloc (.cells #[nv', ev', rv', iv', .int .i64 n'] T)) w' → w'.heap[w.heap.size + 1]? = some (.cells #[nv', ev', rv', iv', .int .i64 n'] T (0, 0))) := by
  refine ⟨fun w' hg => ?_, fun w' hg => ?_⟩
  · rw [hg.heapEq (by simp; omega), heap_alloc_old _ _ (by simp)]
    exact heap_alloc_new w _
  · rw [hg.heapEq (by simp)]
    have := heap_alloc_new (w.alloc (.cells #[nv, ev, rv, iv, .int .i64 n] T)) (.cells #[nv', ev', rv', iv', .int .i64 n'] T)
    rw [World.size_alloc] at this
    exact this

set_option maxRecDepth 100000 in
set_option maxHeartbeats 4000000 in
theorem keepCatsEq (Sa Sb : Nat → Prop) (nv ev rv iv nv' ev' rv' iv' : Value) (c : PCat) (w : World) (ha : CatR Sa w nv ev rv iv c) (hb : CatR Sb w nv' ev' rv' iv' c) :
    Calls Tryz.prog 15 #[c.arg nv ev rv iv, c.arg nv' ev' rv' iv'] w fun e w' => e = .returned (.bool true) ∧ Grow w w' := by
  have HCA := Lib.hid ha; have HCB := Lib.hid hb
  obtain ⟨na, nc, ea, ec, ra, rc, ia, ic, rfl, rfl, rfl, rfl⟩ := ha.slices
  obtain ⟨na', nc', ea', ec', ra', rc', ia', ic', rfl, rfl, rfl, rfl⟩ := hb.slices
  obtain ⟨_, _, hv, hrl, hrc, hRA⟩ := SlR.open ha.2.2.1
  simp only [Value.slice.injEq, true_and] at hv
  obtain ⟨rfl, rfl⟩ := hv
  obtain ⟨_, _, hv, hrl', hrc', hRB⟩ := SlR.open hb.2.2.1
  simp only [Value.slice.injEq, true_and] at hv
  obtain ⟨rfl, rfl⟩ := hv
  obtain ⟨_, _, hv, hil, hic, hIA⟩ := SlR.open ha.2.2.2
  simp only [Value.slice.injEq, true_and] at hv
  obtain ⟨rfl, rfl⟩ := hv
  obtain ⟨_, _, hv, hil', hic', hIB⟩ := SlR.open hb.2.2.2
  simp only [Value.slice.injEq, true_and] at hv
  obtain ⟨rfl, rfl⟩ := hv
  unfold maxLen at hrc hrc' hic hic'
  have HRA := Lib.hid hRA; have HRB := Lib.hid hRB; have HIA := Lib.hid hIA; have HIB := Lib.hid hIB
  have HW := Lib.hid (show ∀ o1 o2, Grow w ((w.alloc o1).alloc o2) from fun o1 o2 => ((Grow.rfl' w).allocd o1).allocd o2)
  have HBX := Lib.hid (boxes2 w (.slice na c.nodes.length nc) (.slice ea c.edges.length ec) (.slice ra c.rules.length rc) (.slice ia c.indexes.length ic) (.slice na' c.nodes.length nc') (.slice ea' c.edges.length ec') (.slice ra' c.rules.length rc') (.slice ia' c.indexes.length ic') c.nextRule c.nextRule 26)
  clear ha hb hRA hRB hIA hIB
  go_enter Tryz.func15, Tryz.ntmps15
  go_wp2_with fail
  refine (keepTextsEq Sa Sb _ _ c.nodes _ (HCA.out.1.growS (HW.out _ _)) (HCB.out.1.growS (HW.out _ _))).mono ?_
  rintro e w2 ⟨rfl, hg⟩
  have HG2 := Lib.hid ((HW.out _ _).step hg); have HA2 := Lib.hid hg
  have hx := HBX.out.1 _ hg; have hy := HBX.out.2 _ hg
  have hxl := blk_lt hx; have hyl := blk_lt hy
  have x1 : w2.cell? ⟨w.heap.size, 1, none⟩ = some (.slice ea c.edges.length ec) := by rw [blk_cell hx]; rfl
  have y1 : w2.cell? ⟨w.heap.size + 1, 1, none⟩ = some (.slice ea' c.edges.length ec') := by rw [blk_cell hy]; rfl
  clear hg hx hy
  go_wp2_with fail
  refine (keepTextsEq Sa Sb _ _ c.edges _ (HCA.out.2.1.growS HG2.out) (HCB.out.2.1.growS HG2.out)).mono ?_
  rintro e w3 ⟨rfl, hg⟩
  have HG3 := Lib.hid (HG2.out.step hg); have HA3 := Lib.hid (HA2.out.step hg)
  have HX := Lib.hid (show ∀ w', Grow w3 w' → w.heap.size < w'.heap.size ∧ w.heap.size + 1 < w'.heap.size ∧ w'.cell? ⟨w.heap.size, 2, none⟩ = some (.slice ra c.rules.length rc) ∧ w'.cell? ⟨w.heap.size + 1, 2, none⟩ = some (.slice ra' c.rules.length rc') ∧ w'.cell? ⟨w.heap.size, 3, none⟩ = some (.slice ia c.indexes.length ic) ∧ w'.cell? ⟨w.heap.size + 1, 3, none⟩ = some (.slice ia' c.indexes.length ic') ∧ w'.cell? ⟨w.heap.size, 4, none⟩ = some (.int .i64 c.nextRule) ∧ w'.cell? ⟨w.heap.size + 1, 4, none⟩ = some (.int .i64 c.nextRule) from fun w' hg' => by
    have hx := HBX.out.1 _ (HA3.out.step hg'); have hy := HBX.out.2 _ (HA3.out.step hg')
    exact ⟨blk_lt hx, blk_lt hy, by rw [blk_cell hx]; rfl, by rw [blk_cell hy]; rfl, by rw [blk_cell hx]; rfl, by rw [blk_cell hy]; rfl, by rw [blk_cell hx]; rfl, by rw [blk_cell hy]; rfl⟩)
  obtain ⟨hxl3, hyl3, x2, y2, x3, y3, x4, y4⟩ := HX.out _ (Grow.rfl' w3)
  clear hg x1 y1 hxl hyl
  go_wp2
  clear hxl3 hyl3 x2 y2 x3 y3 x4 y4
  go_loopg [5] c.rules.length (fun g i wr => ∃ k : Nat, k ≤ c.rules.length ∧ g = c.rules.length - k ∧ i = .int .i64 k ∧ Grow w3 wr)
  case atStart => exact ⟨0, by omega, by omega, rfl, Grow.rfl' _⟩
  case round =>
    obtain ⟨k, hk, rfl, rfl, hgr⟩ := hrel
    have HGR := Lib.hid hgr
    have hgw := HG3.out.step hgr
    obtain ⟨hxl3, hyl3, x2, y2, x3, y3, x4, y4⟩ := HX.out _ hgr
    by_cases hkl : k < c.rules.length
    · obtain ⟨ba, oa, r1, rfl, hSa, hba, hRa, hca⟩ := HRA.out k c.rules[k] (List.getElem?_eq_getElem hkl)
      obtain ⟨bb, ob, r2, rfl, hSb, hbb, hRb, hcb⟩ := HRB.out k c.rules[k] (List.getElem?_eq_getElem hkl)
      obtain ⟨ha0, a0, a1, a2, a3, a4, a5, a6, a7⟩ := ruleCells hRa hba hgw hca
      obtain ⟨hb0, b0, b1, b2, b3, b4, b5, b6, b7⟩ := ruleCells hRb hbb hgw hcb
      clear hca hcb hRa hRb hSa hSb hba hbb hgr hgw x3 y3 x4 y4
      generalize c.rules[k] = x at *
      go_wp2_with fail
      refine wp_region_grow (by kernel_rfl) (by kernel_rfl) ?_
      repeat (go_big_quiet_step (exact calls_gr (keepRuleEq x _)))
      refine wpQuiet_nil ?_
      intro w4 hw4
      go_wp2_with fail
      go_roundg (c.rules.length - (k + 1))
      case measure => omega
      case rel => exact ⟨k + 1, by omega, rfl, by go_num, HGR.out.step hw4⟩
    · clear hgr hgw
      go_wp2
      clear hxl3 hyl3 x2 y2 x3 y3 x4 y4
      go_loopg [6] c.indexes.length (fun g i wz => ∃ j : Nat, j ≤ c.indexes.length ∧ g = c.indexes.length - j ∧ i = .int .i64 j ∧ Grow w3 wz)
      case atStart => exact ⟨0, by omega, by omega, rfl, HGR.out⟩
      case round =>
        obtain ⟨j, hj, rfl, rfl, hgr⟩ := hrel
        have HGRJ := Lib.hid hgr
        have hgw := HG3.out.step hgr
        obtain ⟨hxl3, hyl3, x2, y2, x3, y3, x4, y4⟩ := HX.out _ hgr
        by_cases hjl : j < c.indexes.length
        · obtain ⟨ba, oa, r1, rfl, hSa, hba, hRa, hca⟩ := HIA.out j c.indexes[j] (List.getElem?_eq_getElem hjl)
          obtain ⟨bb, ob, r2, rfl, hSb, hbb, hRb, hcb⟩ := HIB.out j c.indexes[j] (List.getElem?_eq_getElem hjl)
          obtain ⟨ha0, a0, a1⟩ := indexCells hRa hba hgw hca
          obtain ⟨hb0, b0, b1⟩ := indexCells hRb hbb hgw hcb
          clear hca hcb hRa hRb hSa hSb hba hbb hgr hgw x2 y2 x4 y4
          generalize c.indexes[j] = x at *
          go_wp2_with fail
          refine wp_region_grow (by kernel_rfl) (by kernel_rfl) ?_
          repeat (go_big_quiet_step (fail))
          refine wpQuiet_nil ?_
          intro w4 hw4
          go_wp2_with fail
          go_roundg (c.indexes.length - (j + 1))
          case measure => omega
          case rel => exact ⟨j + 1, by omega, rfl, by go_num, HGRJ.out.step hw4⟩
        · clear hgr hgw
          go_wp2
          go_ret
          exact ⟨rfl, HG3.out.step HGRJ.out⟩
end Go.Hg
