/- hedgerowlaw18.AdjPaths: true. No condition. Printed by gen18laws.py. -/
import Derived.Test.YtfffnkgdpbaakaaGreatAdjH
import Derived.Test.YtfffnkgdpbaakaaGreatAdjJ
namespace Go.Hg
open Go.RowKit Go.Proofs


set_option maxRecDepth 100000 in
set_option maxHeartbeats 16000000 in
theorem law18Paths (S : Nat → Prop) (v : Value) (l : List POp) (x y : Int) (typ : ByteArray) (w : World) (hl : OpsR S w v l) : Calls Tryz.prog 3 #[v, .agg #[.int .i64 x, .int .i64 y], .string typ] w fun e w' => e = .returned (.bool true) ∧ Grow w w' := by
  have HL := Lib.hid hl
  have HBX := Lib.hid (show Grow w (w.alloc (.cells #[.int .i64 x, .int .i64 y] 23)) from (Grow.rfl' w).allocd _)
  have HSB := Lib.hid (show ∀ w', Grow (w.alloc (.cells #[.int .i64 x, .int .i64 y] 23)) w' → (w'.cell? ⟨w.heap.size, 0, none⟩ = some (.int .i64 x) ∧ w'.cell? ⟨w.heap.size, 1, none⟩ = some (.int .i64 y)) from fun w' hg => by
    have hh := (hg.heapEq (k := w.heap.size) (by simp)).trans (heap_alloc_new w _)
    exact ⟨by rw [blk_cell hh]; rfl, by rw [blk_cell hh]; rfl⟩)
  clear hl
  by_cases ht : 1000 < typ.size
  · go_enter Tryz.func3, Tryz.ntmps3
    go_wp2_with fail
    refine (law18Wakes _).mono ?_
    rintro e wk ⟨rfl, hgk⟩
    have HGK := Lib.hid ((HBX.out.step hgk))
    clear hgk
    go_wp2
    go_ret
    exact ⟨rfl, HGK.out⟩
  go_enter Tryz.func3, Tryz.ntmps3
  go_wp2_with fail
  refine (lawMadeP S v l _ (HL.out.growS HBX.out)).mono ?_
  rintro e w6 h6
  rcases h6 with ⟨rfl, hg6⟩ | ⟨B1, B2, S1, S2, G, rfl, hgd, hi, hk1, hk2, hg6⟩
  · have HG6 := Lib.hid (HBX.out.step hg6)
    clear hg6
    go_wp2_with fail
    refine (law18Wakes _).mono ?_
    rintro e wk ⟨rfl, hgk⟩
    have HGK := Lib.hid ((HG6.out.step hgk))
    clear hgk
    go_wp2
    go_ret
    exact ⟨rfl, HGK.out⟩
  have HGB := Lib.hid hg6
  have HG6 := Lib.hid (HBX.out.step hg6)
  have HE := Lib.hid (edgesAt_of hk1.rd hi)
  have H64 := Lib.hid (ends64 hgd)
  have HQ := Lib.hid hk2.rd; have HK1 := Lib.hid hk1; have HK2 := Lib.hid hk2
  have HI := Lib.hid hi
  have HB := Lib.hid (show G.edges.length ≤ 1024 by have := hi.items; omega)
  have HEND := Lib.hid (show ∀ e ∈ G.edges, hasN G e.from_ = true ∧ hasN G e.to_ = true from fun e he => ⟨((goodG_iff.1 hgd).2.edges e he).2.1, ((goodG_iff.1 hgd).2.edges e he).2.2.1⟩)
  clear hg6 hgd hi hk1 hk2
  have HD := Lib.hid (show Grow w6 w6.drew from (Grow.rfl' w6).drewd)
  have HS := Lib.hid (show ∀ w', Grow w6 w' → (w'.cell? ⟨w.heap.size, 0, none⟩ = some (.int .i64 x) ∧ w'.cell? ⟨w.heap.size, 1, none⟩ = some (.int .i64 y)) from fun w' hg => HSB.out w' (HGB.out.step hg))
  go_wp2_with fail
  go_region_held3 (fun w' => w'.cell? ⟨w.heap.size, 0, none⟩ = some (.int .i64 x) ∧ w'.cell? ⟨w.heap.size, 1, none⟩ = some (.int .i64 y)) (first | exact HS.out _ HD.out | exact HS.out _ HG7.out | exact HS.out _ HG8.out | exact HS.out _ HG9.out | exact HS.out _ HGK.out) (first | (go_at_call 12; refine (adjPath _ G.edges x y typ _ (HE.out.grow HD.out) HB.out).mono ?_; rintro e w7 ⟨v7, L7, rfl, hL7, hI7, hg7⟩; have HL7 := Lib.hid hL7; have HI7 := Lib.hid hI7; have HG7 := Lib.hid (HD.out.step hg7); clear hL7 hI7 hg7) | (go_at_call 13; refine (ref18Path S2 B2 G x y typ _ (HQ.out.grow HG7.out) HB.out HEND.out).mono ?_; rintro e w8 ⟨v8, L8, ob8, rfl, hL8, hO8, hob8, hg8⟩; obtain rfl : L8 = L7 := hL8.uniq HL7.out; have HI8 := Lib.hid (idsGrow HI7.out hg8); have HO8 := Lib.hid (hO8.toR (S := fun _ => True) (fun _ _ => trivial)); have HG8 := Lib.hid (HG7.out.step hg8); clear hL8 hO8 hob8 hg8) | (go_at_call 11; refine (keepLongsEq _ _ v7 v8 L8 _ HI8.out HO8.out).mono ?_; rintro e w9 ⟨rfl, hg9⟩; have HG9 := Lib.hid (HG8.out.step hg9); clear hg9) | (go_at_call 9; refine (law18Wakes _).mono ?_; rintro e wk ⟨rfl, hgk⟩; have HGK := Lib.hid (HG9.out.step hgk); clear hgk))
  go_wp2
  go_ret
  exact ⟨rfl, HG6.out.step HGK.out⟩
end Go.Hg
