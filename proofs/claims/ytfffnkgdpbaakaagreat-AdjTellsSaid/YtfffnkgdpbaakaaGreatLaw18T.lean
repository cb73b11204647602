/- hedgerowlaw18.AdjTells: true. No condition. Printed by gen18laws.py. -/
import Derived.Test.YtfffnkgdpbaakaaGreatAdjH
import Derived.Test.YtfffnkgdpbaakaaGreatAdjJ
namespace Go.Hg
open Go.RowKit Go.Proofs


theorem degCells {w : World} {a b : Int} {w' : World} (g : Grow (w.alloc (.cells #[.int .i64 a, .int .i64 b] 55)) w') : w.heap.size < w'.heap.size ∧ w'.cell? ⟨w.heap.size, 0, none⟩ = some (.int .i64 a) ∧ w'.cell? ⟨w.heap.size, 1, none⟩ = some (.int .i64 b) := by
  have hh := (g.heapEq (k := w.heap.size) (by simp)).trans (heap_alloc_new w _)
  exact ⟨blk_lt hh, by rw [blk_cell hh]; rfl, by rw [blk_cell hh]; rfl⟩
set_option maxRecDepth 100000 in
set_option maxHeartbeats 2000000 in
theorem ref18Degrees (S : Nat → Prop) (B : Nat) (G : PGraph) (id : Int) (typ : ByteArray) (w : World) (h : GraphRd 89 S w B G) (hb : G.edges.length ≤ 1024) :
    Calls Tryz.prog 22 #[.pointer (some ⟨B, 0, none⟩), .int .i64 id, .string typ] w fun e w' => e = .returned (.agg #[.int .i64 (outN G.edges typ id : Nat), .int .i64 (inN G.edges typ id : Nat)]) ∧ Grow w w' := by
  have HGR := Lib.hid h; have HB := Lib.hid (show G.edges.length ≤ 1099511627776 by omega)
  have HG0 := Lib.hid (show ∀ o1, Grow w (w.alloc o1) from fun o1 => (Grow.rfl' w).allocd o1)
  clear h hb
  go_enter Tryz.func22, Tryz.ntmps22
  go_wp2_with fail
  refine (refOut S B G id typ _ (HGR.out.grow (HG0.out _)) HB.out).mono ?_
  rintro e w2 ⟨v, ob, rfl, ho, hob, hg⟩
  obtain ⟨oa, oc, rfl, -, -⟩ := ho.isSlice
  rw [someE_outs]
  have HG := Lib.hid ((HG0.out _).step hg)
  have HG1 := Lib.hid hg
  clear ho hob hg
  go_wp2_with fail
  refine (refIn S B G id typ _ (HGR.out.grow HG.out) HB.out).mono ?_
  rintro e w3 ⟨v, ob, rfl, ho, hob, hg⟩
  obtain ⟨ia, ic, rfl, -, -⟩ := ho.isSlice
  rw [someE_ins]
  have HG3 := Lib.hid (HG.out.step hg)
  obtain ⟨hl3, z0, z1⟩ := degCells (HG1.out.step hg)
  have hh := ((HG1.out.step hg).heapEq (k := w.heap.size) (by simp)).trans (heap_alloc_new w _)
  have zf0 := blk_free hh 0
  have zf1 := blk_free hh 1
  have HF := Lib.hid (show ∀ u u', Grow w ((w3.setCell ⟨w.heap.size, 0, none⟩ u).setCell ⟨w.heap.size, 1, none⟩ u') from fun u u' => (HG3.out.setd (p := ⟨w.heap.size, 0, none⟩) (Nat.le_refl _) u).setd (p := ⟨w.heap.size, 1, none⟩) (Nat.le_refl _) u')
  clear ho hob hg hh
  go_wp2
  refine bodyPost_ret (v := .agg #[.int .i64 (outN G.edges typ id : Nat), .int .i64 (inN G.edges typ id : Nat)]) ?_ rfl ⟨rfl, ?_⟩
  · rw [results_cell1 rfl]
    go_simp
  · exact HF.out _ _

set_option maxRecDepth 100000 in
set_option maxHeartbeats 16000000 in
theorem law18Tells (S : Nat → Prop) (v : Value) (l : List POp) (x y : Int) (typ : ByteArray) (w : World) (hl : OpsR S w v l) : Calls Tryz.prog 8 #[v, .agg #[.int .i64 x, .int .i64 y], .string typ] w fun e w' => e = .returned (.bool true) ∧ Grow w w' := by
  have HL := Lib.hid hl
  have HBX := Lib.hid (show Grow w (w.alloc (.cells #[.int .i64 x, .int .i64 y] 23)) from (Grow.rfl' w).allocd _)
  have HSB := Lib.hid (show ∀ w', Grow (w.alloc (.cells #[.int .i64 x, .int .i64 y] 23)) w' → (w'.cell? ⟨w.heap.size, 0, none⟩ = some (.int .i64 x) ∧ w'.cell? ⟨w.heap.size, 1, none⟩ = some (.int .i64 y)) from fun w' hg => by
    have hh := (hg.heapEq (k := w.heap.size) (by simp)).trans (heap_alloc_new w _)
    exact ⟨by rw [blk_cell hh]; rfl, by rw [blk_cell hh]; rfl⟩)
  clear hl
  have hc := HSB.out _ (Grow.rfl' _)
  obtain ⟨hc0, hc1⟩ := hc
  have hbl : w.heap.size < (w.alloc (.cells #[.int .i64 x, .int .i64 y] 23)).heap.size := by simp
  have HMM := Lib.hid (show y.tmod 2000 ≤ 1048576 by have := Int.tmod_lt_of_pos y (b := 2000) (by decide); omega)
  by_cases ht : 1000 < typ.size
  · go_enter Tryz.func8, Tryz.ntmps8
    go_wp2_with fail
    refine wp_region_grow (by kernel_rfl) (by kernel_rfl) ?_
    repeat (go_big_quiet_step (fail))
    refine wpQuiet_nil ?_
    intro w1 hg1
    have HG1 := Lib.hid (HBX.out.step hg1)
    have HL1 := Lib.hid (HL.out.growS HG1.out)
    clear hg1
    go_wp2_with fail
    refine (law18Wakes _).mono ?_
    rintro e wk ⟨rfl, hgk⟩
    have HGK := Lib.hid ((HG1.out.step hgk))
    clear hgk
    go_wp2
    go_ret
    exact ⟨rfl, HGK.out⟩
  go_enter Tryz.func8, Tryz.ntmps8
  go_wp2_with fail
  refine wp_region_grow (by kernel_rfl) (by kernel_rfl) ?_
  repeat (go_big_quiet_step (fail))
  refine wpQuiet_nil ?_
  intro w1 hg1
  have HG1 := Lib.hid (HBX.out.step hg1)
  have HL1 := Lib.hid (HL.out.growS HG1.out)
  clear hg1
  go_wp2_with fail
  refine (lawMadeP S v l _ (HL.out.growS HG1.out)).mono ?_
  rintro e w6 h6
  rcases h6 with ⟨rfl, hg6⟩ | ⟨B1, B2, S1, S2, G, rfl, hgd, hi, hk1, hk2, hg6⟩
  · have HG6 := Lib.hid (HG1.out.step hg6)
    clear hg6
    go_wp2_with fail
    refine (law18Wakes _).mono ?_
    rintro e wk ⟨rfl, hgk⟩
    have HGK := Lib.hid ((HG6.out.step hgk))
    clear hgk
    go_wp2
    go_ret
    exact ⟨rfl, HGK.out⟩
  have HG6 := Lib.hid (HG1.out.step hg6)
  have HE := Lib.hid (edgesAt_of hk1.rd hi)
  have H64 := Lib.hid (ends64 hgd)
  have HQ := Lib.hid hk2.rd; have HK1 := Lib.hid hk1; have HK2 := Lib.hid hk2
  have HI := Lib.hid hi
  have HB := Lib.hid (show G.edges.length ≤ 1024 by have := hi.items; omega)
  have HEND := Lib.hid (show ∀ e ∈ G.edges, hasN G e.from_ = true ∧ hasN G e.to_ = true from fun e he => ⟨((goodG_iff.1 hgd).2.edges e he).2.1, ((goodG_iff.1 hgd).2.edges e he).2.2.1⟩)
  clear hg6 hgd hi hk1 hk2
  generalize y.tmod 2000 = mm at *
  go_wp2_with fail
  refine (adjDegree S1 B1 G x typ _ HK1.out.rd HB.out).mono ?_
  rintro e w7 ⟨rfl, hg7⟩
  have HG7 := Lib.hid hg7
  clear hg7
  go_wp2_with fail
  refine (ref18Degrees S2 B2 G x typ _ (HQ.out.grow HG7.out) HB.out).mono ?_
  rintro e w8 ⟨rfl, hg8⟩
  have HG8 := Lib.hid (HG7.out.step hg8)
  have HG9 := Lib.hid (show ∀ o1, Grow w6 (w8.alloc o1) from fun o1 => HG8.out.allocd o1)
  clear hg8
  go_wp2_with fail
  refine (adjNear _ G.edges x typ _ (HE.out.grow (HG9.out _)) HB.out H64.out).mono ?_
  rintro e w10 ⟨va, La, rfl, hLa, hIa, hg⟩
  have HLA := Lib.hid hLa; have HIA := Lib.hid hIa; have HG10 := Lib.hid ((HG9.out _).step hg); have HD10 := Lib.hid hg
  clear hLa hIa hg
  go_wp2_with fail
  refine (ref18Near S2 B2 G x typ _ (HQ.out.grow HG10.out) HB.out (fun e he => (HEND.out e he).1)).mono ?_
  rintro e w11 ⟨vb, Lb, ob, rfl, hLb, hOb, hob, hg⟩
  obtain rfl : Lb = La := (near_rch hLb).uniq HLA.out (fun _ => Iff.rfl)
  have HIA2 := Lib.hid (idsGrow HIA.out hg); have HIB := Lib.hid (hOb.toR (S := fun _ => True) (fun _ _ => trivial)); have HG11 := Lib.hid (HG10.out.step hg); have HD11 := Lib.hid (HD10.out.step hg)
  clear hLb hOb hob hg
  go_wp2_with fail
  refine (keepLongsEq _ _ va vb Lb _ HIA2.out HIB.out).mono ?_
  rintro e w12 ⟨rfl, hg⟩
  have HG12 := Lib.hid (HG11.out.step hg); have HD12 := Lib.hid (HD11.out.step hg)
  clear hg
  go_wp2_with fail
  refine (adjReach _ G.edges x typ mm _ (HE.out.grow HG12.out) HB.out H64.out HMM.out).mono ?_
  rintro e w13 ⟨vc, Lc, rfl, hLc, hIc, hg⟩
  have HLC := Lib.hid hLc; have HIC := Lib.hid hIc; have HG13 := Lib.hid (HG12.out.step hg); have HD13 := Lib.hid (HD12.out.step hg)
  clear hLc hIc hg
  go_wp2_with fail
  refine (ref18Reach S2 B2 G x typ mm _ (HQ.out.grow HG13.out) HB.out (fun e he => (HEND.out e he).1) HMM.out).mono ?_
  rintro e w14 ⟨vd, Ld, od, rfl, hLd, hOd, hod, hg⟩
  obtain rfl : Ld = Lc := hLd.uniq HLC.out (fun _ => Iff.rfl)
  have HIC2 := Lib.hid (idsGrow HIC.out hg); have HID := Lib.hid (hOd.toR (S := fun _ => True) (fun _ _ => trivial)); have HG14 := Lib.hid (HG13.out.step hg); have HD14 := Lib.hid (HD13.out.step hg)
  clear hLd hOd hod hg
  go_wp2_with fail
  refine (keepLongsEq _ _ vc vd Ld _ HIC2.out HID.out).mono ?_
  rintro e w15 ⟨rfl, hg⟩
  have HG15 := Lib.hid (HG14.out.step hg)
  obtain ⟨hl15, z0, z1⟩ := degCells (HD14.out.step hg)
  clear hg
  go_wp2_with fail
  refine (lawSame _ _ B1 B2 G _ (HK1.out.grow HG15.out) (HK2.out.grow HG15.out) HI.out).mono ?_
  rintro e w16 ⟨rfl, hg⟩
  have HG16 := Lib.hid (HG15.out.step hg)
  clear hg z0 z1 hl15
  go_wp2_with fail
  refine (law18Wakes _).mono ?_
  rintro e wk ⟨rfl, hgk⟩
  have HGK := Lib.hid ((HG16.out.step hgk))
  clear hgk
  go_wp2
  go_ret
  exact ⟨rfl, HG6.out.step HGK.out⟩
end Go.Hg
