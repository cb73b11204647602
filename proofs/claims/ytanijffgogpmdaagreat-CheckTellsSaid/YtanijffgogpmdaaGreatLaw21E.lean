/- law21.CheckTells: returns true. No condition. -/
import Derived.Test.YtanijffgogpmdaaGreatLaw21A
import Derived.Test.YtanijffgogpmdaaGreatChkN
import Derived.Deep.DeepCutAuto
namespace Go.Hg
open Go.RowKit Go.Proofs

abbrev CatCell (w : World) (b : Nat) (nv ev rv iv : Value) (c : PCat) : Prop := b < w.heap.size ∧ w.cell? ⟨b, 0, none⟩ = some nv ∧ w.cell? ⟨b, 1, none⟩ = some ev ∧ w.cell? ⟨b, 2, none⟩ = some rv ∧ w.cell? ⟨b, 3, none⟩ = some iv ∧ w.cell? ⟨b, 4, none⟩ = some (.int .i64 c.nextRule)
theorem catCellAt {w w' : World} {b : Nat} {nv ev rv iv : Value} {c : PCat} (h : w.heap[b]? = some (.cells #[nv, ev, rv, iv, .int .i64 c.nextRule] 52)) (g : Grow w w') : CatCell w' b nv ev rv iv c := by
  have h2 : w'.heap[b]? = _ := (g.heapEq (blk_lt h)).trans h
  exact ⟨blk_lt h2, (blk_cell h2 _).trans rfl, (blk_cell h2 _).trans rfl, (blk_cell h2 _).trans rfl, (blk_cell h2 _).trans rfl, (blk_cell h2 _).trans rfl⟩

set_option maxRecDepth 100000 in
set_option maxHeartbeats 16000000 in
theorem law21Tells (S S2 S3 : Nat → Prop) (nv ev rv iv : Value) (c : PCat) (v sv : Value) (l : List POp) (sp : List PSpot) (w : World) (hc : CatR S w nv ev rv iv c) (hl : OpsR S2 w v l) (hs : SpotsR S3 w sv sp) (hwf : ∀ r ∈ c.rules, (Lit.int .i64 r.id).wf = true) :
    Calls Tryz.prog 6 #[c.arg nv ev rv iv, v, sv] w fun e w' => e = .returned (.bool true) ∧ Grow w w' := by
  have HC := Lib.hid hc; have HL := Lib.hid hl; have HS := Lib.hid hs; have HWF := Lib.hid hwf
  obtain ⟨na, nc, ea, ec, ra, rc, ia, ic, rfl, rfl, rfl, rfl⟩ := hc.slices
  obtain ⟨_, _, rfl, _⟩ := SlR.open hl
  obtain ⟨_, _, rfl, _⟩ := SlR.open hs
  have HW := Lib.hid (show ∀ o1, Grow w (w.alloc o1) from fun o1 => (Grow.rfl' w).allocd o1)
  have HB := Lib.hid (fun w' => catCellAt (w := w.alloc (.cells #[.slice na c.nodes.length nc, .slice ea c.edges.length ec, .slice ra c.rules.length rc, .slice ia c.indexes.length ic, .int .i64 c.nextRule] 52)) (w' := w') (c := c) (heap_alloc_new w _))
  clear hc hl hs hwf
  go_enter Tryz.func6, Tryz.ntmps6
  go_wp2_with fail
  refine (lawMadeP S2 _ l _ (HL.out.growS (HW.out _))).mono ?_
  intro e w2 h2
  rcases h2 with ⟨rfl, g2⟩ | ⟨B1, B2, S4, S5, G, rfl, hgd, hi, hok1, hok2, g2⟩
  · have HG2 := Lib.hid ((HW.out _).step g2)
    clear g2
    go_wp2_with fail
    refine (law21Wakes w2).mono ?_
    rintro e w3 ⟨rfl, g3⟩
    have HG3 := Lib.hid (HG2.out.step g3)
    clear g3
    go_wp2
    go_ret
    exact ⟨rfl, HG3.out⟩
  have HG2 := Lib.hid ((HW.out _).step g2)
  have HR := Lib.hid (show ∀ w', Grow w2 w' → CatCell w' w.heap.size _ _ _ _ _ from fun w' g => HB.out w' (g2.step g))
  have HGA := Lib.hid (gAt_of hok1.rd hi); have HOK := Lib.hid (And.intro hok1 hok2); have HI := Lib.hid hi; have H64 := Lib.hid (ends64f hgd)
  have HB1 := Lib.hid (show G.nodes.length ≤ 1099511627776 by have := hi.items; omega)
  have HB2 := Lib.hid (show G.edges.length ≤ 1099511627776 by have := hi.items; omega)
  clear g2 hgd hi hok1 hok2 HB
  obtain ⟨q, c0, c1, c2, c3, c4⟩ := HR.out w2 (Grow.rfl' w2)
  go_wp2_with fail
  refine (keepLargeCat S _ _ _ _ c w2 (HC.out.grow HG2.out)).mono ?_
  rintro e w3 ⟨b, rfl, hlen, g3⟩
  have HG3 := Lib.hid g3; have HLEN := Lib.hid hlen
  clear g3 hlen q c0 c1 c2 c3 c4
  cases b
  rotate_left 1
  · go_wp2_with fail
    refine (law21Wakes w3).mono ?_
    rintro e w4 ⟨rfl, g4⟩
    have HG4 := Lib.hid ((HG2.out.step HG3.out).step g4)
    clear g4
    go_wp2
    go_ret
    exact ⟨rfl, HG4.out⟩
  have HLE := Lib.hid (HLEN.out rfl)
  clear HLEN
  go_wp2_with fail
  refine (law20Fair S3 _ sp w3 (HS.out.grow (HG2.out.step HG3.out))).mono ?_
  rintro e w4 ⟨rfl, g4⟩
  have HG4 := Lib.hid (HG3.out.step g4)
  clear g4
  cases hf : fairSpots sp
  · go_wp2_with fail
    refine (law21Wakes w4).mono ?_
    rintro e w5 ⟨rfl, g5⟩
    have HG5 := Lib.hid ((HG2.out.step HG4.out).step g5)
    clear g5
    go_wp2
    go_ret
    exact ⟨rfl, HG5.out⟩
  have HSL := Lib.hid (show sp.length ≤ 100 by unfold fairSpots at hf; simp at hf; exact hf.2)
  clear hf
  obtain ⟨q, c0, c1, c2, c3, c4⟩ := HR.out w4 HG4.out
  go_wp2_with fail
  refine (keepCopyCat S _ _ _ _ c w4 (HC.out.grow (HG2.out.step HG4.out)) HLE.out).mono ?_
  rintro e w5 ⟨nv', ev', rv', iv', rfl, hc', g5⟩
  have HC' := Lib.hid hc'
  obtain ⟨na', nc', ea', ec', ra', rc', ia', ic', rfl, rfl, rfl, rfl⟩ := hc'.slices
  have HG5 := Lib.hid (HG4.out.step g5)
  clear g5 hc' q c0 c1 c2 c3 c4
  have HA := Lib.hid (show ∀ o1, Grow w2 (w5.alloc o1) ∧ Grow w5 (w5.alloc o1) from fun o1 => ⟨HG5.out.allocd o1, (Grow.rfl' w5).allocd o1⟩)
  have HB' := Lib.hid (fun w' => catCellAt (w := w5.alloc (.cells #[.slice na' c.nodes.length nc', .slice ea' c.edges.length ec', .slice ra' c.rules.length rc', .slice ia' c.indexes.length ic', .int .i64 c.nextRule] 52)) (w' := w') (c := c) (heap_alloc_new w5 _))
  go_wp2_with fail
  refine (checkWhole _ G.nodes G.edges c.rules _ _ _ _ _ _ _ (HGA.out.grow (HA.out _).1) (HC'.out.2.2.1.growS (HA.out _).2) H64.out ⟨⟨_, _, _, rfl⟩, ⟨_, _, _, rfl⟩, ⟨_, _, _, rfl⟩, ⟨_, rfl⟩⟩).mono ?_
  rintro e w6 ⟨rfl, g6⟩
  have HS6 := Lib.hid (show ∀ w', Grow w6 w' → CatCell w' w5.heap.size _ _ _ _ _ from fun w' g => HB'.out w' (g6.step g))
  have HG6 := Lib.hid ((HA.out _).1.step g6); have HG56 := Lib.hid ((HA.out _).2.step g6)
  clear g6 HB' HA
  obtain ⟨q, c0, c1, c2, c3, c4⟩ := HR.out w6 HG6.out
  go_wp2_with fail
  refine (ref21Whole S5 S B2 G _ _ _ _ _ c.rules w6 (HOK.out.2.grow HG6.out) (HC.out.2.2.1.growS (HG2.out.step HG6.out)) HB1.out HB2.out ⟨⟨_, _, _, rfl⟩, ⟨_, _, _, rfl⟩, ⟨_, _, _, rfl⟩, ⟨_, rfl⟩⟩).mono ?_
  rintro e w7 ⟨rfl, g7⟩
  have HG7 := Lib.hid (HG6.out.step g7); have HG67 := Lib.hid g7
  clear g7 q c0 c1 c2 c3 c4
  generalize firstR G.nodes G.edges c.rules = F1 at *
  have HSS := Lib.hid (show ∀ w', Grow w7 w' → CatCell w' w5.heap.size _ _ _ _ _ ∧ CatCell w' w.heap.size _ _ _ _ _ from fun w' g => ⟨HS6.out w' (HG67.out.step g), HR.out w' (HG7.out.step g)⟩)
  have HD := Lib.hid (show Grow w7 w7.drew ∧ ∀ o1, Grow w7 (w7.drew.alloc o1) from ⟨(Grow.rfl' w7).drewd, fun o1 => ((Grow.rfl' w7).drewd).allocd o1⟩)
  have HSP := Lib.hid (show ∀ w', Grow w7 w' → SpotsR S3 w' _ sp from fun w' g => HS.out.grow (HG2.out.step (HG7.out.step g)))
  have HGA7 := Lib.hid (show ∀ w', Grow w7 w' → GAt (.pointer (some ⟨B1, 0, none⟩)) G.nodes G.edges w' ∧ GraphOk 55 S5 w' B2 G ∧ RulesR S w' _ c.rules ∧ SlR _ w' 8 RRule _ c.rules from fun w' g => ⟨HGA.out.grow (HG7.out.step g), HOK.out.2.grow (HG7.out.step g), HC.out.2.2.1.growS (HG2.out.step (HG7.out.step g)), HC'.out.2.2.1.growS (HG56.out.step (HG67.out.step g))⟩)
  clear HS6
  go_upto_region 7 with fail
  have HLE4 := Lib.hid (show c.rules.length ≤ 4096 by have := HLE.out.2.2.1; omega)
  go_region_held3 (fun w' => CatCell w' w5.heap.size (.slice na' c.nodes.length nc') (.slice ea' c.edges.length ec') (.slice ra' c.rules.length rc') (.slice ia' c.indexes.length ic') c) (first | exact (HSS.out _ HG9.out).1 | exact (HSS.out _ HGa.out).1 | exact (HSS.out _ (HD.out.2 _)).1 | exact (HSS.out _ HD.out.1).1) (first | (refine step_append_L rfl (.tmp 58) (.tmp 59) 59 rfl rowSpot Tryz.underlying59 w7.heap.size w7.heap.size (by first | rfl | simp [Act.eval]) _ (by first | rfl | simp [Act.eval]) sp (HSP.out _ (HD.out.2 _)) rspotOk (by simp) (by have := HSL.out; unfold maxLen; omega) (by have := HSL.out; omega) ?_; intro v8 w8 k1 k2; obtain ⟨_, _, rfl, _⟩ := k1.isSlice; have H8 := Lib.hid k1.toR; have HGa := Lib.hid ((HD.out.2 _).step k2); clear k1 k2) | (go_at_call 30; (refine (checkCommit _ _ _ G.nodes G.edges _ _ _ _ _ _ c.rules sp _ (HGA7.out _ HGa.out).1 H64.out (HGA7.out _ HGa.out).2.2.2 H8.out HLE4.out HWF.out ⟨⟨_, _, _, rfl⟩, ⟨_, _, _, rfl⟩, ⟨_, _, _, rfl⟩, ⟨_, rfl⟩⟩).mono ?_); rintro e w9 ⟨rfl, g9⟩; have HG9 := Lib.hid (HGa.out.step g9); clear g9))
  all_goals
    clear HD
    have HD := Lib.hid (show Grow w7 w9.drew from HG9.out.drewd)
    try go_upto_region 8 with fail
  all_goals
    go_region_held3 (fun w' => CatCell w' w.heap.size (.slice na c.nodes.length nc) (.slice ea c.edges.length ec) (.slice ra c.rules.length rc) (.slice ia c.indexes.length ic) c) (first | exact (HSS.out _ HGd.out).2 | exact (HSS.out _ HGc.out).2 | exact (HSS.out _ HD.out).2) (first | (go_at_call 32; (refine (law20Own _ _ sp _ (HSP.out _ HD.out) (by have := HSL.out; omega)).mono ?_); rintro e wc ⟨vc, rfl, hvc, gc⟩; obtain ⟨_, _, rfl, _⟩ := SlR.open hvc; have Hc := Lib.hid hvc; have HGc := Lib.hid (HD.out.step gc); clear hvc gc) | (go_at_call 31; (refine (ref21Commit S5 S _ B2 G (.slice na c.nodes.length nc) (.slice ea c.edges.length ec) _ (.slice ia c.indexes.length ic) (.int .i64 c.nextRule) _ c.rules sp _ (HGA7.out _ HGc.out).2.1 (HGA7.out _ HGc.out).2.2.1 Hc.out HB1.out HB2.out (by have := HLE4.out; omega) ⟨⟨_, _, _, rfl⟩, ⟨_, _, _, rfl⟩, ⟨_, _, _, rfl⟩, ⟨_, rfl⟩⟩).mono ?_); rintro e wd ⟨rfl, gd⟩; have HGd := Lib.hid (HGc.out.step gd); clear gd))
  all_goals
    clear HD
    generalize firstR G.nodes G.edges (c.rules.filter (touchR sp)) = F2 at *
    obtain ⟨⟨q, c0, c1, c2, c3, c4⟩, -⟩ := HSS.out wd HGd.out
    go_wp2_with fail
    refine (checkWhole _ [] [] c.rules _ _ _ _ _ wd _ (gAt_nil _) (HGA7.out _ HGd.out).2.2.2 (by simp) ⟨⟨_, _, _, rfl⟩, ⟨_, _, _, rfl⟩, ⟨_, _, _, rfl⟩, ⟨_, rfl⟩⟩).mono ?_
    rintro e we ⟨rfl, ge⟩
    have HGe := Lib.hid (HGd.out.step ge)
    clear ge q c0 c1 c2 c3 c4
    obtain ⟨F3, hF3⟩ : ∃ o, firstR [] [] c.rules = o := ⟨_, rfl⟩
    rw [hF3]
    have HF3 := Lib.hid hF3
    clear hF3
    have HD := Lib.hid (show Grow w7 we.drew from HGe.out.drewd)
    try go_upto_region 10 with fail
  all_goals
    go_region_held3 (fun w' => CatCell w' w.heap.size (.slice na c.nodes.length nc) (.slice ea c.edges.length ec) (.slice ra c.rules.length rc) (.slice ia c.indexes.length ic) c) (first | exact (HSS.out _ HGg.out).2 | exact (HSS.out _ HGf.out).2 | exact (HSS.out _ HD.out).2) (first | (go_at_call 33; (refine (refNew _).mono ?_); rintro e wf ⟨Bf, rfl, hof, gf⟩; have Hf := Lib.hid hof; have HGf := Lib.hid (HD.out.step gf); clear hof gf) | (go_at_call 29; (refine (ref21Whole _ S Bf PGraph.empty (.slice na c.nodes.length nc) (.slice ea c.edges.length ec) _ (.slice ia c.indexes.length ic) (.int .i64 c.nextRule) c.rules _ Hf.out (HGA7.out _ HGf.out).2.2.1 (by decide) (by decide) ⟨⟨_, _, _, rfl⟩, ⟨_, _, _, rfl⟩, ⟨_, _, _, rfl⟩, ⟨_, rfl⟩⟩).mono ?_); intro e wg hwg; obtain ⟨rfl, gg⟩ : e = .returned (.tuple #[.int .i64 (F3.getD 0), .int .i64 (errR F3)]) ∧ _ := (by rw [← HF3.out]; exact hwg); have HGg := Lib.hid (HGf.out.step gg); clear hwg gg))
  all_goals
    obtain ⟨⟨q, c0, c1, c2, c3, c4⟩, ⟨q', d0, d1, d2, d3, d4⟩⟩ := HSS.out wg HGg.out
    go_wp2_with fail
    refine (keepCatsEq _ _ _ _ _ _ _ _ _ _ c wg (HC'.out.grow (HG56.out.step (HG67.out.step HGg.out))) (HC.out.grow (HG2.out.step (HG7.out.step HGg.out)))).mono ?_
    rintro e wh ⟨rfl, gh⟩
    have HGh := Lib.hid (HGg.out.step gh)
    clear gh q q' c0 c1 c2 c3 c4 d0 d1 d2 d3 d4
    go_wp2_with fail
    refine (lawSame S4 S5 B1 B2 G wh (HOK.out.1.grow (HG7.out.step HGh.out)) (HOK.out.2.grow (HG7.out.step HGh.out)) HI.out).mono ?_
    rintro e wi ⟨rfl, gi⟩
    have HGi := Lib.hid (HGh.out.step gi)
    clear gi
    go_wp2_with fail
    refine (law21Wakes wi).mono ?_
    rintro e wj ⟨rfl, gj⟩
    have HGj := Lib.hid (HGi.out.step gj)
    clear gj
    go_wp2
    go_ret
    exact ⟨rfl, HG2.out.step (HG7.out.step HGj.out)⟩
end Go.Hg
