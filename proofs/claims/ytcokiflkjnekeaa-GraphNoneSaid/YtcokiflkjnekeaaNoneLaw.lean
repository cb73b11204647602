/- hedgerowlaw17.GraphNone: true. No condition. -/
import Derived.Test.YtcokiflkjnekeaaLawB
import Derived.Test.YtcokiflkjnekeaaCopy
import Derived.Test.YtcokiflkjnekeaaLex
namespace Go.Hg
open Go.RowKit Go.Proofs

set_option maxHeartbeats 400000 in
theorem graphNextNil (w : World) : Calls Try.prog 17 #[.pointer none] w fun e w' => e = .returned (.int .i64 0) ∧ w = w' := by
  go_enter Try.func17, Try.ntmps17
  go_wp2
  go_ret
  exact ⟨rfl, rfl⟩
set_option maxHeartbeats 1000000 in
theorem graphGetNodeNil (id : Int) (w : World) : Calls Try.prog 33 #[.pointer none, .int .i64 id] w fun e w' => e = .returned (.tuple #[.agg #[.int .i64 0, .string ByteArray.empty, .slice none 0 0], .bool false]) ∧ Grow w w' := by
  have HG := Lib.hid (show ∀ o1, Grow w (w.alloc o1) from fun o1 => (Grow.rfl' w).allocd o1)
  have hb := heap_alloc_new w (.cells #[.int .i64 0, .string ByteArray.empty, .slice none 0 0] 52)
  go_enter Try.func33, Try.ntmps33
  go_wp2
  refine bodyPost_ret (v := .tuple #[.agg #[.int .i64 0, .string ByteArray.empty, .slice none 0 0], .bool false]) ?_ rfl ⟨rfl, ?_⟩
  · rw [results_cell_tmp rfl]
    go_simp
    rfl
  · exact HG.out _
set_option maxHeartbeats 1000000 in
theorem graphGetEdgeNil (id : Int) (w : World) : Calls Try.prog 24 #[.pointer none, .int .i64 id] w fun e w' => e = .returned (.tuple #[.agg #[.int .i64 0, .string ByteArray.empty, .int .i64 0, .int .i64 0, .slice none 0 0], .bool false]) ∧ Grow w w' := by
  have HG := Lib.hid (show ∀ o1, Grow w (w.alloc o1) from fun o1 => (Grow.rfl' w).allocd o1)
  have hb := heap_alloc_new w (.cells #[.int .i64 0, .string ByteArray.empty, .int .i64 0, .int .i64 0, .slice none 0 0] 56)
  go_enter Try.func24, Try.ntmps24
  go_wp2
  refine bodyPost_ret (v := .tuple #[.agg #[.int .i64 0, .string ByteArray.empty, .int .i64 0, .int .i64 0, .slice none 0 0], .bool false]) ?_ rfl ⟨rfl, ?_⟩
  · rw [results_cell_tmp rfl]
    go_simp
    rfl
  · exact HG.out _

set_option maxRecDepth 100000 in
set_option maxHeartbeats 8000000 in
theorem lawNone (o : POp) (w : World) : Calls Try.prog 8 #[o.args] w fun e w' => e = .returned (.bool true) ∧ Grow w w' := by
  have HW := Lib.hid (show ∀ o1, Grow w (w.alloc o1) from fun o1 => (Grow.rfl' w).allocd o1)
  have HOP := Lib.hid (show OpAt (w.alloc (.cells o.cells.toArray 39)) w.heap.size o from heap_alloc_new w _)
  have hop := HOP.out.at
  obtain ⟨hl2, c0, c1, c2, c3, c4, c5, c6, c7, c8, c9⟩ := hop
  go_enter Try.func8, Try.ntmps8
  go_wp2_with fail
  refine (keepLargeOp o _).mono ?_
  rintro e w2 ⟨rfl, hg⟩
  have HA2 := Lib.hid hg
  clear hg c0 c1 c2 c3 c4 c5 c6 c7 c8 c9
  cases hx : largeO o
  · have HS := Lib.hid (show ∀ w', Grow w2 w' → (w'.cell? ⟨w.heap.size, 0, none⟩ = some (.int .i64 o.kind) ∧ w'.cell? ⟨w.heap.size, 1, none⟩ = some (.int .i64 o.id) ∧ w'.cell? ⟨w.heap.size, 2, none⟩ = some (.string o.typ) ∧ w'.cell? ⟨w.heap.size, 3, none⟩ = some (.int .i64 o.from_) ∧ w'.cell? ⟨w.heap.size, 4, none⟩ = some (.int .i64 o.to_) ∧ w'.cell? ⟨w.heap.size, 5, none⟩ = some (.string o.name) ∧ w'.cell? ⟨w.heap.size, 6, none⟩ = some (.int .i64 o.v.kind) ∧ w'.cell? ⟨w.heap.size, 7, none⟩ = some (.int .i64 o.v.n) ∧ w'.cell? ⟨w.heap.size, 8, none⟩ = some (.string o.v.s) ∧ w'.cell? ⟨w.heap.size, 9, none⟩ = some (.bool o.cascade)) from fun w' hg' => ((HOP.out.grow HA2.out).grow hg').at.2)
    have HD := Lib.hid (show Grow w2 w2.drew from (Grow.rfl' w2).drewd)
    go_wp2_with fail
    go_region_held3 (fun w' => w'.cell? ⟨w.heap.size, 0, none⟩ = some (.int .i64 o.kind) ∧ w'.cell? ⟨w.heap.size, 1, none⟩ = some (.int .i64 o.id) ∧ w'.cell? ⟨w.heap.size, 2, none⟩ = some (.string o.typ) ∧ w'.cell? ⟨w.heap.size, 3, none⟩ = some (.int .i64 o.from_) ∧ w'.cell? ⟨w.heap.size, 4, none⟩ = some (.int .i64 o.to_) ∧ w'.cell? ⟨w.heap.size, 5, none⟩ = some (.string o.name) ∧ w'.cell? ⟨w.heap.size, 6, none⟩ = some (.int .i64 o.v.kind) ∧ w'.cell? ⟨w.heap.size, 7, none⟩ = some (.int .i64 o.v.n) ∧ w'.cell? ⟨w.heap.size, 8, none⟩ = some (.string o.v.s) ∧ w'.cell? ⟨w.heap.size, 9, none⟩ = some (.bool o.cascade)) (first | exact HS.out _ HD.out | exact HS.out _ HD3.out | exact HS.out _ HG4.out) (first | (go_at_call 13; refine (lawTypes _).mono ?_; rintro e w3 ⟨nv, ev, rfl, hc, hg3⟩; have HC := Lib.hid hc; have HD3 := Lib.hid (HD.out.step hg3); obtain ⟨na, nc, ea, ec, ra, rc, ia, ic, rfl, rfl, -, -⟩ := hc.slices; clear hc hg3) | (go_at_call 12; refine (graphDoNil _ _ _ _ typesC o _ _ HC.out).mono ?_; rintro e w4 ⟨rfl, hg4⟩; have HG4 := Lib.hid (HD3.out.step hg4); clear hg4))
    go_wp2_with fail
    refine (graphGetNodeNil 1 _).mono ?_
    rintro e w5 ⟨rfl, hg⟩
    have HG5 := Lib.hid (HG4.out.step hg); clear hg
    go_wp2_with fail
    refine (graphGetEdgeNil 1 _).mono ?_
    rintro e w6 ⟨rfl, hg⟩
    have HG6 := Lib.hid ((HG5.out.allocd _).step hg); clear hg
    have HD7 := Lib.hid (show ∀ o1, Grow w2 (w6.alloc o1).drew from fun o1 => (HG6.out.allocd o1).drewd)
    go_wp2_with fail
    simp only [List.append_eq, List.cons_append, List.nil_append]
    go_region_held3 (fun w' => w'.cell? ⟨w.heap.size, 0, none⟩ = some (.int .i64 o.kind) ∧ w'.cell? ⟨w.heap.size, 1, none⟩ = some (.int .i64 o.id) ∧ w'.cell? ⟨w.heap.size, 2, none⟩ = some (.string o.typ) ∧ w'.cell? ⟨w.heap.size, 3, none⟩ = some (.int .i64 o.from_) ∧ w'.cell? ⟨w.heap.size, 4, none⟩ = some (.int .i64 o.to_) ∧ w'.cell? ⟨w.heap.size, 5, none⟩ = some (.string o.name) ∧ w'.cell? ⟨w.heap.size, 6, none⟩ = some (.int .i64 o.v.kind) ∧ w'.cell? ⟨w.heap.size, 7, none⟩ = some (.int .i64 o.v.n) ∧ w'.cell? ⟨w.heap.size, 8, none⟩ = some (.string o.v.s) ∧ w'.cell? ⟨w.heap.size, 9, none⟩ = some (.bool o.cascade)) (first | exact HS.out _ (HD7.out _) | exact HS.out _ HT8.out | exact HS.out _ HT9.out | exact HS.out _ HT11.out | exact HS.out _ HT12.out | exact HS.out _ HT13.out | exact HS.out _ HT14.out) (first | (go_at_call 13; refine (lawTypes _).mono ?_; rintro e w8 ⟨nv, ev, rfl, hc, hg⟩; have HC := Lib.hid hc; have HT8 := Lib.hid ((HD7.out _).step hg); obtain ⟨na, nc, ea, ec, ra, rc, ia, ic, rfl, rfl, -, -⟩ := hc.slices; clear hc hg) | (go_at_call 34; refine (graphMayNil _ _ _ _ typesC o _ _ HC.out).mono ?_; rintro e w9 ⟨rfl, hg⟩; have HT9 := Lib.hid (HT8.out.step hg); clear hg) | (go_at_call 15; refine (graphNodesNil _).mono ?_; rintro e w10 ⟨rfl, rfl⟩) | (go_at_call 16; refine (graphEdgesNil _).mono ?_; rintro e w10 ⟨rfl, rfl⟩) | (go_at_call 35; refine (graphScanNil _ _).mono ?_; rintro e w11 ⟨rfl, hg⟩; have HT11 := Lib.hid (HT9.out.step hg); clear hg) | (go_at_call 22; refine (graphOutNil _ _ _).mono ?_; rintro e w12 ⟨rfl, hg⟩; have HT12 := Lib.hid (HT11.out.step hg); clear hg) | (go_at_call 23; refine (graphInNil _ _ _).mono ?_; rintro e w13 ⟨rfl, hg⟩; have HT13 := Lib.hid (HT12.out.step hg); clear hg) | (go_at_call 17; refine (graphNextNil _).mono ?_; rintro e w10 ⟨rfl, rfl⟩) | (go_at_call 29; refine (graphLoadNil (fun _ => True) _ _ [] [] 1 _ ((OwnL.nil _ 52 3 _).toSl (by simp)) ((OwnL.nil _ 56 5 _).toSl (by simp))).mono ?_; rintro e w10 ⟨rfl, rfl⟩) | (go_at_call 20; refine (graphCopyNil _).mono ?_; rintro e w10 ⟨rfl, rfl⟩) | (go_at_call 10; refine (lawWakes _).mono ?_; rintro e w14 ⟨rfl, hg⟩; have HT14 := Lib.hid (HT13.out.step hg); clear hg))
    go_wp2
    go_ret
    exact ⟨rfl, ((HW.out _).step HA2.out).step HT14.out⟩
  · go_wp2_with fail
    refine (lawWakes _).mono ?_
    rintro e w3 ⟨rfl, hg3⟩
    have HG3 := Lib.hid (((HW.out _).step HA2.out).step hg3); clear hg3
    go_wp2
    go_ret
    exact ⟨rfl, HG3.out⟩
end Go.Hg
