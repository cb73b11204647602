/- hedgerowref17: Scan, Out, In. Condition: at most 2^40 of each. Printed by gencat.py. -/
import Derived.Test.YtcokiflkjnekeaaGreatRefB
namespace Go.Hg
open Go.RowKit Go.Proofs

set_option maxRecDepth 100000 in
set_option maxHeartbeats 2000000 in
theorem refScan (S : Nat → Prop) (B : Nat) (G : PGraph) (typ : ByteArray) (w : World) (h : GraphRd 70 S w B G) (hb : G.nodes.length ≤ 1099511627776) :
    Calls Tryz.prog 38 #[.pointer (some ⟨B, 0, none⟩), .string typ] w (IdsPost (scanG G typ) w) := by
  obtain ⟨na, nc, ea, ec, hB, c0, c1, c2, hn, -⟩ := h.read
  obtain ⟨iP, hiP, hzP0, hzP1, hzP2⟩ := info_parts infoInt
  obtain ⟨_, _, hv, hal, hac, hA⟩ := SlR.open hn
  simp only [Value.slice.injEq, true_and] at hv
  obtain ⟨rfl, rfl⟩ := hv
  unfold maxLen at hac
  have HS := Lib.hid (show ∀ w', Grow w w' → B < w'.heap.size ∧ w'.cell? ⟨B, 0, none⟩ = some (.slice na G.nodes.length nc) from fun w' hg => ⟨Nat.lt_of_lt_of_le hB hg.size, (hg.cell (p := ⟨B, 0, none⟩) hB).trans c0⟩)
  have HA := Lib.hid hA; have HB := Lib.hid hb
  clear h hn hA hb c1 c2
  unfold scanG
  generalize G.nodes = l at *
  go_enter Tryz.func38, Tryz.ntmps38
  go_wp2
  go_loopg [5, 6] l.length (fun g vo i wr => ∃ (k : Nat) (ob : Option Nat), k ≤ l.length ∧ g = l.length - k ∧ i = .int .i64 k ∧ IdsO wr vo (((l.take k).filter fun x => decide (x.typ = typ)).map (·.id)) ob ∧ (∀ b, ob = some b → w.heap.size ≤ b) ∧ Grow w wr)
  case atStart => exact ⟨0, none, by omega, by omega, rfl, OwnS.nil _ _ _, by simp, Grow.rfl' w⟩
  case round =>
    obtain ⟨k, ob, hk, rfl, rfl, hown, hob, hgr⟩ := hrel
    have HOWN := Lib.hid hown; have HOB := Lib.hid hob; have HGR := Lib.hid hgr
    obtain ⟨oo, co, rfl, -, -⟩ := hown.isSlice
    obtain ⟨hBr, c1r⟩ := HS.out _ HGR.out
    clear c0
    by_cases hkl : k < l.length
    · obtain ⟨ba, oa, ra, rfl, hSa, hba, hRa, hca⟩ := HA.out k l[k] (List.getElem?_eq_getElem hkl)
      obtain ⟨pva, hba', a0, a1, a2, hpa⟩ := hRa.at hba hgr hca
      clear hca hRa hSa hba hgr hown hob hpa
      have HT := Lib.hid (show l.take (k + 1) = l.take k ++ [l[k]] from List.take_succ_eq_append_getElem hkl)
      have HFL := Lib.hid (show ((l.take k).filter fun x => decide (x.typ = typ)).length ≤ l.length from Nat.le_trans (List.length_filter_le _ _) (List.length_take_le' k l))
      generalize l[k] = p at *
      generalize hfl : ((l.take k).filter fun x => decide (x.typ = typ)).map (·.id) = fl at *
      have hfll : ((l.take k).filter fun x => decide (x.typ = typ)).length = fl.length := by rw [← hfl, List.length_map]
      rw [hfll] at HFL
      have HFF := Lib.hid hfl
      clear hfl hfll
      cases hn : decide (p.typ = typ)
      · have HATE := Lib.hid hn
        have hf1 : Hid (((l.take (k + 1)).filter fun x => decide (x.typ = typ)).map (·.id) = fl) := Lib.hid (by rw [HT.out, List.filter_append, ← HFF.out]; simp [HATE.out])
        go_wp2_with fail
        go_roundg (l.length - (k + 1))
        case measure => omega
        case rel => exact ⟨k + 1, ob, by omega, rfl, by go_num, by rw [hf1.out]; exact HOWN.out, HOB.out, HGR.out⟩
      · have HATE := Lib.hid hn
        have HW := Lib.hid (show ∀ o1, Grow wr (wr.alloc o1) from fun o1 => (Grow.rfl' wr).allocd o1)
        have hf1 : Hid (((l.take (k + 1)).filter fun x => decide (x.typ = typ)).map (·.id) = fl ++ [p.id]) := Lib.hid (by rw [HT.out, List.filter_append, ← HFF.out]; simp [HATE.out])
        have HRD := Lib.hid (Rd.lit wr #[.int .i64 p.id] 2 1 1 rfl)
        go_wp2_with (at_builtin; go_must (refine wpList_append_S _ rfl (.tmp 26) (.tmp 35) 62 rfl 2 iP _ 1 8 Tryz.underlying62 hiP hzP0 hzP1 hzP2 rfl (by decide) (.slice oo fl.length co) fl.length _ ob rfl (HOWN.out.grow (HW.out _)) (.slice (some ⟨wr.heap.size, 0, none⟩) 1 1) rfl 1 _ HRD.out (one1 _ rfl) (by have := HB.out; have := HFL.out; unfold maxLen; omega) (by have := HB.out; have := HFL.out; omega) ?_))
        intro v' w5 ob' h1 h2 h3
        have hown5 : IdsO w5 v' (((l.take (k + 1)).filter fun x => decide (x.typ = typ)).map (·.id)) ob' := by
          rw [hf1.out]
          unfold IdsO
          rw [List.length_append, List.map_append]
          exact h1
        have hsz := HGR.out.size
        have hob5 : ∀ b, ob' = some b → w.heap.size ≤ b := by
          intro b hb
          rcases h3 with h3 | ⟨g, h3, hge⟩
          · exact HOB.out b (by rw [← h3]; exact hb)
          · rw [h3] at hb; cases hb; first | omega | (simp at hge; omega)
        have hg5 : Grow w w5 := (HGR.out.step (HW.out _)).modd h2 (fun b hb => HOB.out b hb)
        have H5 := Lib.hid hown5; have HO5 := Lib.hid hob5; have HG5 := Lib.hid hg5
        clear h1 h2 h3 hown5 hob5 hg5 hsz
        go_wp2_with fail
        go_roundg (l.length - (k + 1))
        case measure => omega
        case rel => exact ⟨k + 1, ob', by omega, rfl, by go_num, H5.out, HO5.out, HG5.out⟩
    · have hkk : l.take k = l := List.take_of_length_le (by omega)
      rw [hkk] at HOWN
      clear hown hob hgr
      simp only [hkk]
      go_wp2
      go_ret
      exact ⟨_, ob, rfl, HOWN.out, HOB.out, HGR.out⟩

set_option maxRecDepth 100000 in
set_option maxHeartbeats 2000000 in
theorem refOut (S : Nat → Prop) (B : Nat) (G : PGraph) (id : Int) (typ : ByteArray) (w : World) (h : GraphRd 70 S w B G) (hb : G.edges.length ≤ 1099511627776) :
    Calls Tryz.prog 39 #[.pointer (some ⟨B, 0, none⟩), .int .i64 id, .string typ] w (IdsPost (someE G.edges typ fun x => decide (x.from_ = id)) w) := by
  obtain ⟨na, nc, ea, ec, hB, c0, c1, c2, -, hn⟩ := h.read
  obtain ⟨iP, hiP, hzP0, hzP1, hzP2⟩ := info_parts infoInt
  obtain ⟨_, _, hv, hal, hac, hA⟩ := SlR.open hn
  simp only [Value.slice.injEq, true_and] at hv
  obtain ⟨rfl, rfl⟩ := hv
  unfold maxLen at hac
  have HS := Lib.hid (show ∀ w', Grow w w' → B < w'.heap.size ∧ w'.cell? ⟨B, 1, none⟩ = some (.slice ea G.edges.length ec) from fun w' hg => ⟨Nat.lt_of_lt_of_le hB hg.size, (hg.cell (p := ⟨B, 1, none⟩) hB).trans c1⟩)
  have HA := Lib.hid hA; have HB := Lib.hid hb
  clear h hn hA hb c0 c2
  unfold someE
  generalize G.edges = l at *
  go_enter Tryz.func39, Tryz.ntmps39
  go_wp2
  go_loopg [7, 8] l.length (fun g vo i wr => ∃ (k : Nat) (ob : Option Nat), k ≤ l.length ∧ g = l.length - k ∧ i = .int .i64 k ∧ IdsO wr vo (((l.take k).filter fun x => (decide (typ = ByteArray.empty) || decide (x.typ = typ)) && decide (x.from_ = id)).map (·.id)) ob ∧ (∀ b, ob = some b → w.heap.size ≤ b) ∧ Grow w wr)
  case atStart => exact ⟨0, none, by omega, by omega, rfl, OwnS.nil _ _ _, by simp, Grow.rfl' w⟩
  case round =>
    obtain ⟨k, ob, hk, rfl, rfl, hown, hob, hgr⟩ := hrel
    have HOWN := Lib.hid hown; have HOB := Lib.hid hob; have HGR := Lib.hid hgr
    obtain ⟨oo, co, rfl, -, -⟩ := hown.isSlice
    obtain ⟨hBr, c1r⟩ := HS.out _ HGR.out
    clear c1
    by_cases hkl : k < l.length
    · obtain ⟨ba, oa, ra, rfl, hSa, hba, hRa, hca⟩ := HA.out k l[k] (List.getElem?_eq_getElem hkl)
      obtain ⟨pva, hba', a0, a1, a2, a3, a4, hpa⟩ := hRa.at hba hgr hca
      clear hca hRa hSa hba hgr hown hob hpa
      have HT := Lib.hid (show l.take (k + 1) = l.take k ++ [l[k]] from List.take_succ_eq_append_getElem hkl)
      have HFL := Lib.hid (show ((l.take k).filter fun x => (decide (typ = ByteArray.empty) || decide (x.typ = typ)) && decide (x.from_ = id)).length ≤ l.length from Nat.le_trans (List.length_filter_le _ _) (List.length_take_le' k l))
      generalize l[k] = p at *
      generalize hfl : ((l.take k).filter fun x => (decide (typ = ByteArray.empty) || decide (x.typ = typ)) && decide (x.from_ = id)).map (·.id) = fl at *
      have hfll : ((l.take k).filter fun x => (decide (typ = ByteArray.empty) || decide (x.typ = typ)) && decide (x.from_ = id)).length = fl.length := by rw [← hfl, List.length_map]
      rw [hfll] at HFL
      have HFF := Lib.hid hfl
      clear hfl hfll
      have hemp := empty_beq typ
      by_cases hp1 : p.from_ = id
      · have hq1 : (p.from_ == id) = true := by simpa using hp1
        cases he : decide (typ = ByteArray.empty)
        · rw [he] at hemp
          cases ht : decide (p.typ = typ)
          · have HATE := Lib.hid (show ((decide (typ = ByteArray.empty) || decide (p.typ = typ)) && decide (p.from_ = id)) = false by simp [*])
            clear hp1
            have hf1 : Hid (((l.take (k + 1)).filter fun x => (decide (typ = ByteArray.empty) || decide (x.typ = typ)) && decide (x.from_ = id)).map (·.id) = fl) := Lib.hid (by rw [HT.out, List.filter_append, ← HFF.out]; simp [HATE.out])
            go_wp2_with fail
            go_roundg (l.length - (k + 1))
            case measure => omega
            case rel => exact ⟨k + 1, ob, by omega, rfl, by go_num, by rw [hf1.out]; exact HOWN.out, HOB.out, HGR.out⟩
          · have HATE := Lib.hid (show ((decide (typ = ByteArray.empty) || decide (p.typ = typ)) && decide (p.from_ = id)) = true by simp [*])
            clear hp1
            have HW := Lib.hid (show ∀ o1, Grow wr (wr.alloc o1) from fun o1 => (Grow.rfl' wr).allocd o1)
            have hf1 : Hid (((l.take (k + 1)).filter fun x => (decide (typ = ByteArray.empty) || decide (x.typ = typ)) && decide (x.from_ = id)).map (·.id) = fl ++ [p.id]) := Lib.hid (by rw [HT.out, List.filter_append, ← HFF.out]; simp [HATE.out])
            have HRD := Lib.hid (Rd.lit wr #[.int .i64 p.id] 2 1 1 rfl)
            go_wp2_with (at_builtin; go_must (refine wpList_append_S _ rfl (.tmp 44) (.tmp 53) 62 rfl 2 iP _ 1 8 Tryz.underlying62 hiP hzP0 hzP1 hzP2 rfl (by decide) (.slice oo fl.length co) fl.length _ ob rfl (HOWN.out.grow (HW.out _)) (.slice (some ⟨wr.heap.size, 0, none⟩) 1 1) rfl 1 _ HRD.out (one1 _ rfl) (by have := HB.out; have := HFL.out; unfold maxLen; omega) (by have := HB.out; have := HFL.out; omega) ?_))
            intro v' w5 ob' h1 h2 h3
            have hown5 : IdsO w5 v' (((l.take (k + 1)).filter fun x => (decide (typ = ByteArray.empty) || decide (x.typ = typ)) && decide (x.from_ = id)).map (·.id)) ob' := by
              rw [hf1.out]
              unfold IdsO
              rw [List.length_append, List.map_append]
              exact h1
            have hsz := HGR.out.size
            have hob5 : ∀ b, ob' = some b → w.heap.size ≤ b := by
              intro b hb
              rcases h3 with h3 | ⟨g, h3, hge⟩
              · exact HOB.out b (by rw [← h3]; exact hb)
              · rw [h3] at hb; cases hb; first | omega | (simp at hge; omega)
            have hg5 : Grow w w5 := (HGR.out.step (HW.out _)).modd h2 (fun b hb => HOB.out b hb)
            have H5 := Lib.hid hown5; have HO5 := Lib.hid hob5; have HG5 := Lib.hid hg5
            clear h1 h2 h3 hown5 hob5 hg5 hsz
            go_wp2_with fail
            go_roundg (l.length - (k + 1))
            case measure => omega
            case rel => exact ⟨k + 1, ob', by omega, rfl, by go_num, H5.out, HO5.out, HG5.out⟩
        · rw [he] at hemp
          have HATE := Lib.hid (show ((decide (typ = ByteArray.empty) || decide (p.typ = typ)) && decide (p.from_ = id)) = true by simp [*])
          clear hp1
          have HW := Lib.hid (show ∀ o1, Grow wr (wr.alloc o1) from fun o1 => (Grow.rfl' wr).allocd o1)
          have hf1 : Hid (((l.take (k + 1)).filter fun x => (decide (typ = ByteArray.empty) || decide (x.typ = typ)) && decide (x.from_ = id)).map (·.id) = fl ++ [p.id]) := Lib.hid (by rw [HT.out, List.filter_append, ← HFF.out]; simp [HATE.out])
          have HRD := Lib.hid (Rd.lit wr #[.int .i64 p.id] 2 1 1 rfl)
          go_wp2_with (at_builtin; go_must (refine wpList_append_S _ rfl (.tmp 44) (.tmp 53) 62 rfl 2 iP _ 1 8 Tryz.underlying62 hiP hzP0 hzP1 hzP2 rfl (by decide) (.slice oo fl.length co) fl.length _ ob rfl (HOWN.out.grow (HW.out _)) (.slice (some ⟨wr.heap.size, 0, none⟩) 1 1) rfl 1 _ HRD.out (one1 _ rfl) (by have := HB.out; have := HFL.out; unfold maxLen; omega) (by have := HB.out; have := HFL.out; omega) ?_))
          intro v' w5 ob' h1 h2 h3
          have hown5 : IdsO w5 v' (((l.take (k + 1)).filter fun x => (decide (typ = ByteArray.empty) || decide (x.typ = typ)) && decide (x.from_ = id)).map (·.id)) ob' := by
            rw [hf1.out]
            unfold IdsO
            rw [List.length_append, List.map_append]
            exact h1
          have hsz := HGR.out.size
          have hob5 : ∀ b, ob' = some b → w.heap.size ≤ b := by
            intro b hb
            rcases h3 with h3 | ⟨g, h3, hge⟩
            · exact HOB.out b (by rw [← h3]; exact hb)
            · rw [h3] at hb; cases hb; first | omega | (simp at hge; omega)
          have hg5 : Grow w w5 := (HGR.out.step (HW.out _)).modd h2 (fun b hb => HOB.out b hb)
          have H5 := Lib.hid hown5; have HO5 := Lib.hid hob5; have HG5 := Lib.hid hg5
          clear h1 h2 h3 hown5 hob5 hg5 hsz
          go_wp2_with fail
          go_roundg (l.length - (k + 1))
          case measure => omega
          case rel => exact ⟨k + 1, ob', by omega, rfl, by go_num, H5.out, HO5.out, HG5.out⟩
      · have hq1 : (p.from_ == id) = false := by simpa using hp1
        have HATE := Lib.hid (show ((decide (typ = ByteArray.empty) || decide (p.typ = typ)) && decide (p.from_ = id)) = false by simp [*])
        clear hp1 hemp
        have hf1 : Hid (((l.take (k + 1)).filter fun x => (decide (typ = ByteArray.empty) || decide (x.typ = typ)) && decide (x.from_ = id)).map (·.id) = fl) := Lib.hid (by rw [HT.out, List.filter_append, ← HFF.out]; simp [HATE.out])
        go_wp2_with fail
        go_roundg (l.length - (k + 1))
        case measure => omega
        case rel => exact ⟨k + 1, ob, by omega, rfl, by go_num, by rw [hf1.out]; exact HOWN.out, HOB.out, HGR.out⟩
    · have hkk : l.take k = l := List.take_of_length_le (by omega)
      rw [hkk] at HOWN
      clear hown hob hgr
      simp only [hkk]
      go_wp2
      go_ret
      exact ⟨_, ob, rfl, HOWN.out, HOB.out, HGR.out⟩

set_option maxRecDepth 100000 in
set_option maxHeartbeats 2000000 in
theorem refIn (S : Nat → Prop) (B : Nat) (G : PGraph) (id : Int) (typ : ByteArray) (w : World) (h : GraphRd 70 S w B G) (hb : G.edges.length ≤ 1099511627776) :
    Calls Tryz.prog 41 #[.pointer (some ⟨B, 0, none⟩), .int .i64 id, .string typ] w (IdsPost (someE G.edges typ fun x => decide (x.to_ = id)) w) := by
  obtain ⟨na, nc, ea, ec, hB, c0, c1, c2, -, hn⟩ := h.read
  obtain ⟨iP, hiP, hzP0, hzP1, hzP2⟩ := info_parts infoInt
  obtain ⟨_, _, hv, hal, hac, hA⟩ := SlR.open hn
  simp only [Value.slice.injEq, true_and] at hv
  obtain ⟨rfl, rfl⟩ := hv
  unfold maxLen at hac
  have HS := Lib.hid (show ∀ w', Grow w w' → B < w'.heap.size ∧ w'.cell? ⟨B, 1, none⟩ = some (.slice ea G.edges.length ec) from fun w' hg => ⟨Nat.lt_of_lt_of_le hB hg.size, (hg.cell (p := ⟨B, 1, none⟩) hB).trans c1⟩)
  have HA := Lib.hid hA; have HB := Lib.hid hb
  clear h hn hA hb c0 c2
  unfold someE
  generalize G.edges = l at *
  go_enter Tryz.func41, Tryz.ntmps41
  go_wp2
  go_loopg [7, 8] l.length (fun g vo i wr => ∃ (k : Nat) (ob : Option Nat), k ≤ l.length ∧ g = l.length - k ∧ i = .int .i64 k ∧ IdsO wr vo (((l.take k).filter fun x => (decide (typ = ByteArray.empty) || decide (x.typ = typ)) && decide (x.to_ = id)).map (·.id)) ob ∧ (∀ b, ob = some b → w.heap.size ≤ b) ∧ Grow w wr)
  case atStart => exact ⟨0, none, by omega, by omega, rfl, OwnS.nil _ _ _, by simp, Grow.rfl' w⟩
  case round =>
    obtain ⟨k, ob, hk, rfl, rfl, hown, hob, hgr⟩ := hrel
    have HOWN := Lib.hid hown; have HOB := Lib.hid hob; have HGR := Lib.hid hgr
    obtain ⟨oo, co, rfl, -, -⟩ := hown.isSlice
    obtain ⟨hBr, c1r⟩ := HS.out _ HGR.out
    clear c1
    by_cases hkl : k < l.length
    · obtain ⟨ba, oa, ra, rfl, hSa, hba, hRa, hca⟩ := HA.out k l[k] (List.getElem?_eq_getElem hkl)
      obtain ⟨pva, hba', a0, a1, a2, a3, a4, hpa⟩ := hRa.at hba hgr hca
      clear hca hRa hSa hba hgr hown hob hpa
      have HT := Lib.hid (show l.take (k + 1) = l.take k ++ [l[k]] from List.take_succ_eq_append_getElem hkl)
      have HFL := Lib.hid (show ((l.take k).filter fun x => (decide (typ = ByteArray.empty) || decide (x.typ = typ)) && decide (x.to_ = id)).length ≤ l.length from Nat.le_trans (List.length_filter_le _ _) (List.length_take_le' k l))
      generalize l[k] = p at *
      generalize hfl : ((l.take k).filter fun x => (decide (typ = ByteArray.empty) || decide (x.typ = typ)) && decide (x.to_ = id)).map (·.id) = fl at *
      have hfll : ((l.take k).filter fun x => (decide (typ = ByteArray.empty) || decide (x.typ = typ)) && decide (x.to_ = id)).length = fl.length := by rw [← hfl, List.length_map]
      rw [hfll] at HFL
      have HFF := Lib.hid hfl
      clear hfl hfll
      have hemp := empty_beq typ
      by_cases hp1 : p.to_ = id
      · have hq1 : (p.to_ == id) = true := by simpa using hp1
        cases he : decide (typ = ByteArray.empty)
        · rw [he] at hemp
          cases ht : decide (p.typ = typ)
          · have HATE := Lib.hid (show ((decide (typ = ByteArray.empty) || decide (p.typ = typ)) && decide (p.to_ = id)) = false by simp [*])
            clear hp1
            have hf1 : Hid (((l.take (k + 1)).filter fun x => (decide (typ = ByteArray.empty) || decide (x.typ = typ)) && decide (x.to_ = id)).map (·.id) = fl) := Lib.hid (by rw [HT.out, List.filter_append, ← HFF.out]; simp [HATE.out])
            go_wp2_with fail
            go_roundg (l.length - (k + 1))
            case measure => omega
            case rel => exact ⟨k + 1, ob, by omega, rfl, by go_num, by rw [hf1.out]; exact HOWN.out, HOB.out, HGR.out⟩
          · have HATE := Lib.hid (show ((decide (typ = ByteArray.empty) || decide (p.typ = typ)) && decide (p.to_ = id)) = true by simp [*])
            clear hp1
            have HW := Lib.hid (show ∀ o1, Grow wr (wr.alloc o1) from fun o1 => (Grow.rfl' wr).allocd o1)
            have hf1 : Hid (((l.take (k + 1)).filter fun x => (decide (typ = ByteArray.empty) || decide (x.typ = typ)) && decide (x.to_ = id)).map (·.id) = fl ++ [p.id]) := Lib.hid (by rw [HT.out, List.filter_append, ← HFF.out]; simp [HATE.out])
            have HRD := Lib.hid (Rd.lit wr #[.int .i64 p.id] 2 1 1 rfl)
            go_wp2_with (at_builtin; go_must (refine wpList_append_S _ rfl (.tmp 44) (.tmp 53) 62 rfl 2 iP _ 1 8 Tryz.underlying62 hiP hzP0 hzP1 hzP2 rfl (by decide) (.slice oo fl.length co) fl.length _ ob rfl (HOWN.out.grow (HW.out _)) (.slice (some ⟨wr.heap.size, 0, none⟩) 1 1) rfl 1 _ HRD.out (one1 _ rfl) (by have := HB.out; have := HFL.out; unfold maxLen; omega) (by have := HB.out; have := HFL.out; omega) ?_))
            intro v' w5 ob' h1 h2 h3
            have hown5 : IdsO w5 v' (((l.take (k + 1)).filter fun x => (decide (typ = ByteArray.empty) || decide (x.typ = typ)) && decide (x.to_ = id)).map (·.id)) ob' := by
              rw [hf1.out]
              unfold IdsO
              rw [List.length_append, List.map_append]
              exact h1
            have hsz := HGR.out.size
            have hob5 : ∀ b, ob' = some b → w.heap.size ≤ b := by
              intro b hb
              rcases h3 with h3 | ⟨g, h3, hge⟩
              · exact HOB.out b (by rw [← h3]; exact hb)
              · rw [h3] at hb; cases hb; first | omega | (simp at hge; omega)
            have hg5 : Grow w w5 := (HGR.out.step (HW.out _)).modd h2 (fun b hb => HOB.out b hb)
            have H5 := Lib.hid hown5; have HO5 := Lib.hid hob5; have HG5 := Lib.hid hg5
            clear h1 h2 h3 hown5 hob5 hg5 hsz
            go_wp2_with fail
            go_roundg (l.length - (k + 1))
            case measure => omega
            case rel => exact ⟨k + 1, ob', by omega, rfl, by go_num, H5.out, HO5.out, HG5.out⟩
        · rw [he] at hemp
          have HATE := Lib.hid (show ((decide (typ = ByteArray.empty) || decide (p.typ = typ)) && decide (p.to_ = id)) = true by simp [*])
          clear hp1
          have HW := Lib.hid (show ∀ o1, Grow wr (wr.alloc o1) from fun o1 => (Grow.rfl' wr).allocd o1)
          have hf1 : Hid (((l.take (k + 1)).filter fun x => (decide (typ = ByteArray.empty) || decide (x.typ = typ)) && decide (x.to_ = id)).map (·.id) = fl ++ [p.id]) := Lib.hid (by rw [HT.out, List.filter_append, ← HFF.out]; simp [HATE.out])
          have HRD := Lib.hid (Rd.lit wr #[.int .i64 p.id] 2 1 1 rfl)
          go_wp2_with (at_builtin; go_must (refine wpList_append_S _ rfl (.tmp 44) (.tmp 53) 62 rfl 2 iP _ 1 8 Tryz.underlying62 hiP hzP0 hzP1 hzP2 rfl (by decide) (.slice oo fl.length co) fl.length _ ob rfl (HOWN.out.grow (HW.out _)) (.slice (some ⟨wr.heap.size, 0, none⟩) 1 1) rfl 1 _ HRD.out (one1 _ rfl) (by have := HB.out; have := HFL.out; unfold maxLen; omega) (by have := HB.out; have := HFL.out; omega) ?_))
          intro v' w5 ob' h1 h2 h3
          have hown5 : IdsO w5 v' (((l.take (k + 1)).filter fun x => (decide (typ = ByteArray.empty) || decide (x.typ = typ)) && decide (x.to_ = id)).map (·.id)) ob' := by
            rw [hf1.out]
            unfold IdsO
            rw [List.length_append, List.map_append]
            exact h1
          have hsz := HGR.out.size
          have hob5 : ∀ b, ob' = some b → w.heap.size ≤ b := by
            intro b hb
            rcases h3 with h3 | ⟨g, h3, hge⟩
            · exact HOB.out b (by rw [← h3]; exact hb)
            · rw [h3] at hb; cases hb; first | omega | (simp at hge; omega)
          have hg5 : Grow w w5 := (HGR.out.step (HW.out _)).modd h2 (fun b hb => HOB.out b hb)
          have H5 := Lib.hid hown5; have HO5 := Lib.hid hob5; have HG5 := Lib.hid hg5
          clear h1 h2 h3 hown5 hob5 hg5 hsz
          go_wp2_with fail
          go_roundg (l.length - (k + 1))
          case measure => omega
          case rel => exact ⟨k + 1, ob', by omega, rfl, by go_num, H5.out, HO5.out, HG5.out⟩
      · have hq1 : (p.to_ == id) = false := by simpa using hp1
        have HATE := Lib.hid (show ((decide (typ = ByteArray.empty) || decide (p.typ = typ)) && decide (p.to_ = id)) = false by simp [*])
        clear hp1 hemp
        have hf1 : Hid (((l.take (k + 1)).filter fun x => (decide (typ = ByteArray.empty) || decide (x.typ = typ)) && decide (x.to_ = id)).map (·.id) = fl) := Lib.hid (by rw [HT.out, List.filter_append, ← HFF.out]; simp [HATE.out])
        go_wp2_with fail
        go_roundg (l.length - (k + 1))
        case measure => omega
        case rel => exact ⟨k + 1, ob, by omega, rfl, by go_num, by rw [hf1.out]; exact HOWN.out, HOB.out, HGR.out⟩
    · have hkk : l.take k = l := List.take_of_length_le (by omega)
      rw [hkk] at HOWN
      clear hown hob hgr
      simp only [hkk]
      go_wp2
      go_ret
      exact ⟨_, ob, rfl, HOWN.out, HOB.out, HGR.out⟩

end Go.Hg
