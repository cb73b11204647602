/- check.doubles' closure: a node's value, and whether it counts; check.doubles: the nodes whose value another one has; check.Broken: without a form, Unique, Exists; hedgerowref15.First, hedgerowref21.Whole; hedgerowref21.Whole; hedgerowref20.has, Touches; The kit's contracts of the library at this seat's functions (ShelfC); hedgerowlaw17.wakes: true; check.Broken: Ends. Conditions: those that each theorem names. -/
import Derived.WalkKit
import Derived.WalkSpells
import Derived.WalkLawsBesides
import Derived.Lib.Hide
import Derived.BigQuiet
import Derived.Deep.LoopGhost
import Derived.Test.YtanijffgogpmdaaGreatRows
import Derived.Lib.SliceRun
import Derived.WideMake
import Derived.Deep.RegionLaw
import Derived.Lib.Overlaps
import Derived.Deep.RegionHeld3
import Derived.Laws.ResultCell
import Derived.Laws.EntriesVeiled
import Derived.Maps.OwnOps
import Derived.Maps.OwnSet
import Derived.Carry
import Derived.Lib.SlKeysI
import Derived.Maps.RangeWalk
import Derived.Lib.SlMapFilter
import Derived.Deep.DeepCutAuto
import Derived.Shelf.SlIterI.Nil
import Derived.Shelf.SortM.Plain
import Derived.Shelf.SortM.SortNone
import Derived.Shelf.SlMaps.DeleteFunc
import Derived.Shelf.SlSortCmp.WholeK
import Derived.Test.YtanijffgogpmdaaGreatDirN
import Derived.Test.YtanijffgogpmdaaGreatDirP
import Derived.Test.YtanijffgogpmdaaGreatDirQ
import Derived.Test.YtanijffgogpmdaaGreatDirR
import Derived.Test.YtanijffgogpmdaaGreatDirT
import Derived.Test.YtanijffgogpmdaaGreatDirV
import Derived.Test.YtanijffgogpmdaaGreatDirW
import Derived.Test.YtanijffgogpmdaaGreatDirX
import Derived.Test.YtanijffgogpmdaaGreatDirAd
import Derived.Test.YtanijffgogpmdaaGreatDirAg
import Derived.Test.YtanijffgogpmdaaGreatDirAp
namespace Go.Hg
open Go.RowKit Go.Proofs

theorem far3 (w : World) (B : Nat) (a b c : Value) (q : Nat × Nat) (h : q.1 ≠ B) : (((w.setCell ⟨B, 0, none⟩ a).setCell ⟨B, 1, none⟩ b).setCell ⟨B, 2, none⟩ c).cell? ⟨q.1, q.2, none⟩ = w.cell? ⟨q.1, q.2, none⟩ := by
  rw [World.cell?_setCell_far _ _ _ _ (Ne.symm h), World.cell?_setCell_far _ _ _ _ (Ne.symm h), World.cell?_setCell_far _ _ _ _ (Ne.symm h)]

set_option maxRecDepth 100000 in
set_option maxHeartbeats 2000000 in
theorem doublesVal (x : PNode) (pv : Value) (rb : Nat) (r : PRule) (w : World) (S : Nat → Prop) (hp : PropsR S w pv x.props) (hr : RuleBox w rb r) :
    Calls Tryz.prog 102 #[.agg #[.int .i64 x.id, .string x.typ, pv], .pointer (some ⟨rb, 0, none⟩)] w fun e w' => e = .returned (.tuple #[(getV x.props r.name).args, .bool ((getP x.props r.name).isSome && decide (x.typ = r.typ))]) ∧ Grow w w' := by
  have HP := Lib.hid hp; have HR := Lib.hid hr
  obtain ⟨_, _, rfl⟩ := hp.isSlice
  have HG := Lib.hid (show ∀ o1 o2, Grow w ((w.alloc o1).alloc o2) from fun o1 o2 => ((Grow.rfl' w).allocd o1).allocd o2)
  have HNB := Lib.hid (show ∀ o1 o2 w', Grow ((w.alloc o1).alloc o2) w' → w'.heap[w.heap.size]? = some o1 ∧ w'.heap[w.heap.size + 1]? = some o2 from fun o1 o2 w' hg => by
    have h1 : (w.alloc o1).heap[w.heap.size]? = some o1 := heap_alloc_new w o1
    have h2 : ((w.alloc o1).alloc o2).heap[w.heap.size + 1]? = some o2 := by simpa using heap_alloc_new (w.alloc o1) o2
    exact ⟨((((Grow.rfl' (w.alloc o1)).allocd o2).step hg).heapEq (blk_lt h1)).trans h1, (hg.heapEq (blk_lt h2)).trans h2⟩)
  obtain ⟨hrl, c1, c2, c3, c4, c5, c6, c7, c0⟩ := hr.cells
  obtain ⟨gv, hgv⟩ : ∃ gv, getV x.props r.name = gv := ⟨_, rfl⟩
  obtain ⟨bo, hbo⟩ : ∃ b, (getP x.props r.name).isSome = b := ⟨_, rfl⟩
  have HGV := Lib.hid hgv; have HBO := Lib.hid hbo
  clear hp hr c1 c2 c4 c5 c6 c7 c0 hgv hbo
  go_enter Tryz.func102, Tryz.ntmps102
  go_wp2_with fail
  refine (valGet S _ x.props r.name _ (HP.out.grow (HG.out _ _))).mono ?_
  rintro e w2 ⟨rfl, hw2⟩
  rw [HGV.out, HBO.out]
  have HG2 := Lib.hid ((HG.out _ _).step hw2)
  obtain ⟨hn, hz⟩ := HNB.out _ _ w2 hw2
  have HNN := Lib.hid hn; have HZ := Lib.hid hz
  have hrb := HR.out.grow HG2.out
  have HRB := Lib.hid hrb
  clear hn hz hw2 hrb c3 hrl
  go_wp2_with fail
  have hlt0 := blk_lt HNN.out; have hlt1 := blk_lt HZ.out; have hlt2 := blk_lt HRB.out
  have HK := Lib.hid (show ∀ o1, Grow w2 (w2.alloc o1).drew from fun o1 => ((Grow.rfl' w2).allocd o1).drewd)
  have HBX := Lib.hid (show ∀ o1, (w2.alloc o1).drew.heap[w2.heap.size]? = some o1 from fun o1 => heap_alloc_new w2 _)
  have KEEP0 := Lib.hid (show (fun w' => w'.cell? ⟨w2.heap.size, 0, none⟩ = some (.int .i64 gv.kind) ∧ w'.cell? ⟨w2.heap.size, 1, none⟩ = some (.int .i64 gv.n) ∧ w'.cell? ⟨w2.heap.size, 2, none⟩ = some (.string gv.s) ∧ w'.cell? ⟨w.heap.size, 1, none⟩ = some (.string x.typ) ∧ w'.cell? ⟨rb, 2, none⟩ = some (.string r.typ)) (w2.alloc (.cells #[.int .i64 gv.kind, .int .i64 gv.n, .string gv.s] 42 (0, 0))).drew from
    ⟨by rw [blk_cell (HBX.out _)]; rfl, by rw [blk_cell (HBX.out _)]; rfl, by rw [blk_cell (HBX.out _)]; rfl, by rw [blk_cell (((HK.out _).heapEq hlt0).trans HNN.out)]; rfl, (HRB.out.grow (HK.out _)).cells.2.2.1⟩)
  have zb := ((HK.out (.cells #[.int .i64 gv.kind, .int .i64 gv.n, .string gv.s] 42 (0, 0))).heapEq hlt1).trans HZ.out
  have zl := blk_lt zb
  have zf0 := blk_free zb 0; have zf1 := blk_free zb 1; have zf2 := blk_free zb 2
  have z0 : (w2.alloc (.cells #[.int .i64 gv.kind, .int .i64 gv.n, .string gv.s] 42 (0, 0))).drew.cell? ⟨w.heap.size + 1, 0, none⟩ = some (.int .i64 0) := by rw [blk_cell zb]; rfl
  have z1 : (w2.alloc (.cells #[.int .i64 gv.kind, .int .i64 gv.n, .string gv.s] 42 (0, 0))).drew.cell? ⟨w.heap.size + 1, 1, none⟩ = some (.int .i64 0) := by rw [blk_cell zb]; rfl
  have z2 : (w2.alloc (.cells #[.int .i64 gv.kind, .int .i64 gv.n, .string gv.s] 42 (0, 0))).drew.cell? ⟨w.heap.size + 1, 2, none⟩ = some (.string ByteArray.empty) := by rw [blk_cell zb]; rfl
  have hne : w2.heap.size ≠ w.heap.size + 1 := by omega
  have hrl := HR.out.cells.1
  have HGD := Lib.hid (show Grow w (w2.alloc (.cells #[.int .i64 gv.kind, .int .i64 gv.n, .string gv.s] 42 (0, 0))).drew from HG2.out.step (HK.out _))
  clear zb
  cases bo
  · skip
    refine wp_region_noPanic ?_
    refine wp_region_held_drew (S := fun w' => w'.cell? ⟨w2.heap.size, 0, none⟩ = some (.int .i64 gv.kind) ∧ w'.cell? ⟨w2.heap.size, 1, none⟩ = some (.int .i64 gv.n) ∧ w'.cell? ⟨w2.heap.size, 2, none⟩ = some (.string gv.s) ∧ w'.cell? ⟨w.heap.size, 1, none⟩ = some (.string x.typ) ∧ w'.cell? ⟨rb, 2, none⟩ = some (.string r.typ)) (by kernel_rfl) ?_ (fun hHeld => ?_)
    · exact KEEP0.out
    generalize hwD : (w2.alloc (.cells #[.int .i64 gv.kind, .int .i64 gv.n, .string gv.s] 42 (0, 0))).drew = wD at *
    refine' wpAnyH_take (i := 0) (oi := ?o1) (v := _) (by simp only [List.getElem?_toArray, List.getElem?_cons_zero]; rfl) (by kernel_rfl) (by kernel_rfl) (by kernel_rfl) (fun _ _ _ h => h) (Or.inl ⟨by rfl, ?y1⟩) (by assumption) ?r1
    case y1 =>
      intro wS hSw
      try dsimp only at hSw
      go_simp
      all_goals with_reducible rfl
    simp only [Act.put, List.setIfInBounds_toArray, List.set_cons_zero, List.set_cons_succ]
    refine' wpAnyH_take (i := 1) (oi := ?o2) (v := _) (by simp only [List.getElem?_toArray, List.getElem?_cons_succ, List.getElem?_cons_zero]; rfl) (by kernel_rfl) (by kernel_rfl) (by kernel_rfl) (fun _ _ _ h => h) (Or.inl ⟨by rfl, ?y2⟩) (by assumption) ?r2
    case y2 =>
      intro wS hSw
      try dsimp only at hSw
      go_simp
      all_goals with_reducible rfl
    simp only [Act.put, List.setIfInBounds_toArray, List.set_cons_zero, List.set_cons_succ]
    refine' wpAnyH_take (i := 2) (oi := ?o3) (v := _) (by simp only [List.getElem?_toArray, List.getElem?_cons_succ, List.getElem?_cons_zero]; rfl) (by kernel_rfl) (by kernel_rfl) (by kernel_rfl) (fun _ _ _ h => h) (Or.inl ⟨by rfl, ?y3⟩) (by assumption) ?r3
    case y3 =>
      intro wS hSw
      try dsimp only at hSw
      go_simp
      all_goals with_reducible rfl
    simp only [Act.put, List.setIfInBounds_toArray, List.set_cons_zero, List.set_cons_succ]
    refine' wpAnyH_take (i := 3) (oi := ?o4) (v := undef) (by simp only [List.getElem?_toArray, List.getElem?_cons_succ, List.getElem?_cons_zero]; rfl) (by kernel_rfl) (by kernel_rfl) (by kernel_rfl) (fun _ _ _ h => h) (Or.inr ⟨by rfl, rfl⟩) (by assumption) ?r4
    simp only [Act.put, List.setIfInBounds_toArray, List.set_cons_zero, List.set_cons_succ]
    refine' wpAnyH_take (i := 4) (oi := ?o5) (v := undef) (by simp only [List.getElem?_toArray, List.getElem?_cons_succ, List.getElem?_cons_zero]; rfl) (by kernel_rfl) (by kernel_rfl) (by kernel_rfl) (fun _ _ _ h => h) (Or.inr ⟨by rfl, rfl⟩) (by assumption) ?r5
    simp only [Act.put, List.setIfInBounds_toArray, List.set_cons_zero, List.set_cons_succ]
    refine' wpAnyH_take (i := 5) (oi := ?o6) (v := undef) (by simp only [List.getElem?_toArray, List.getElem?_cons_succ, List.getElem?_cons_zero]; rfl) (by kernel_rfl) (by kernel_rfl) (by kernel_rfl) (fun _ _ _ h => h) (Or.inr ⟨by rfl, rfl⟩) (by assumption) ?r6
    simp only [Act.put, List.setIfInBounds_toArray, List.set_cons_zero, List.set_cons_succ]
    refine' wpAnyH_take (i := 6) (oi := ?o7) (v := undef) (by simp only [List.getElem?_toArray, List.getElem?_cons_succ, List.getElem?_cons_zero]; rfl) (by kernel_rfl) (by kernel_rfl) (by kernel_rfl) (fun _ _ _ h => h) (Or.inr ⟨by rfl, rfl⟩) (by assumption) ?r7
    simp only [Act.put, List.setIfInBounds_toArray, List.set_cons_zero, List.set_cons_succ]
    refine' wpAnyH_take (i := 7) (oi := ?o8) (v := undef) (by simp only [List.getElem?_toArray, List.getElem?_cons_succ, List.getElem?_cons_zero]; rfl) (by kernel_rfl) (by kernel_rfl) (by kernel_rfl) (fun _ _ _ h => h) (Or.inr ⟨by rfl, rfl⟩) (by assumption) ?r8
    simp only [Act.put, List.setIfInBounds_toArray, List.set_cons_zero, List.set_cons_succ]
    refine' wpAnyH_take (i := 8) (oi := ?o9) (v := _) (by simp only [List.getElem?_toArray, List.getElem?_cons_succ, List.getElem?_cons_zero]; rfl) (by kernel_rfl) (by kernel_rfl) (by kernel_rfl) (fun _ _ _ h => h) (Or.inl ⟨by rfl, ?y9⟩) (by assumption) ?r9
    case y9 =>
      intro wS hSw
      try dsimp only at hSw
      go_simp
      all_goals with_reducible rfl
    simp only [Act.put, List.setIfInBounds_toArray, List.set_cons_zero, List.set_cons_succ]
    refine wpAnyH_ready (rs := [9]) (by kernel_rfl) (by simp) ?_
    refine' AllReadyH.cons (o := ?o10) (by simp only [List.getElem?_toArray, List.getElem?_cons_succ, List.getElem?_cons_zero]; rfl) (fun K hK => ?s10) ?m10
    case m10 => exact AllReadyH.nil
    go_simp
    refine hK.out _ _ ?_ (fun hHeld => ?_)
    · obtain ⟨k0, k1, k2, k3, k4⟩ := KEEP0.out; exact ⟨(far3 _ _ _ _ _ (_, _) hne).trans k0, (far3 _ _ _ _ _ (_, _) hne).trans k1, (far3 _ _ _ _ _ (_, _) hne).trans k2, (far3 _ _ _ _ _ (w.heap.size, 1) (by show w.heap.size ≠ w.heap.size + 1; omega)).trans k3, (far3 _ _ _ _ _ (rb, 2) (by show rb ≠ w.heap.size + 1; omega)).trans k4⟩
    clear hK K
    try simp only [Act.put, List.setIfInBounds_toArray, List.set_cons_zero, List.set_cons_succ]
    refine' wpAnyH_take (i := 10) (oi := ?o11) (v := _) (by simp only [List.getElem?_toArray, List.getElem?_cons_succ, List.getElem?_cons_zero]; rfl) (by kernel_rfl) (by kernel_rfl) (by kernel_rfl) (fun _ _ _ h => h) (Or.inl ⟨by rfl, ?y11⟩) (by assumption) ?r11
    case y11 =>
      intro wS hSw
      try dsimp only at hSw
      go_simp
      all_goals with_reducible rfl
    simp only [Act.put, List.setIfInBounds_toArray, List.set_cons_zero, List.set_cons_succ]
    refine wpAnyH_done (by kernel_rfl) ?_ _
    refine NoPanic.normal ?_

    go_wp2
    refine bodyPost_ret (v := .tuple #[gv.args, .bool (false)]) ?_ rfl ⟨by rw [HGV.out, HBO.out]; rfl, ?_⟩
    · rw [results_cell_tmp rfl]
      go_simp
    · exact (((HGD.out).setd (p := ⟨w.heap.size + 1, 0, none⟩) (by show w.heap.size ≤ w.heap.size + 1; omega) _).setd (p := ⟨w.heap.size + 1, 1, none⟩) (by show w.heap.size ≤ w.heap.size + 1; omega) _).setd (p := ⟨w.heap.size + 1, 2, none⟩) (by show w.heap.size ≤ w.heap.size + 1; omega) _
  · skip
    refine wp_region_noPanic ?_
    refine wp_region_held_drew (S := fun w' => w'.cell? ⟨w2.heap.size, 0, none⟩ = some (.int .i64 gv.kind) ∧ w'.cell? ⟨w2.heap.size, 1, none⟩ = some (.int .i64 gv.n) ∧ w'.cell? ⟨w2.heap.size, 2, none⟩ = some (.string gv.s) ∧ w'.cell? ⟨w.heap.size, 1, none⟩ = some (.string x.typ) ∧ w'.cell? ⟨rb, 2, none⟩ = some (.string r.typ)) (by kernel_rfl) ?_ (fun hHeld => ?_)
    · exact KEEP0.out
    generalize hwD : (w2.alloc (.cells #[.int .i64 gv.kind, .int .i64 gv.n, .string gv.s] 42 (0, 0))).drew = wD at *
    refine' wpAnyH_take (i := 0) (oi := ?o12) (v := _) (by simp only [List.getElem?_toArray, List.getElem?_cons_zero]; rfl) (by kernel_rfl) (by kernel_rfl) (by kernel_rfl) (fun _ _ _ h => h) (Or.inl ⟨by rfl, ?y12⟩) (by assumption) ?r12
    case y12 =>
      intro wS hSw
      try dsimp only at hSw
      go_simp
      all_goals with_reducible rfl
    simp only [Act.put, List.setIfInBounds_toArray, List.set_cons_zero, List.set_cons_succ]
    refine' wpAnyH_take (i := 1) (oi := ?o13) (v := _) (by simp only [List.getElem?_toArray, List.getElem?_cons_succ, List.getElem?_cons_zero]; rfl) (by kernel_rfl) (by kernel_rfl) (by kernel_rfl) (fun _ _ _ h => h) (Or.inl ⟨by rfl, ?y13⟩) (by assumption) ?r13
    case y13 =>
      intro wS hSw
      try dsimp only at hSw
      go_simp
      all_goals with_reducible rfl
    simp only [Act.put, List.setIfInBounds_toArray, List.set_cons_zero, List.set_cons_succ]
    refine' wpAnyH_take (i := 2) (oi := ?o14) (v := _) (by simp only [List.getElem?_toArray, List.getElem?_cons_succ, List.getElem?_cons_zero]; rfl) (by kernel_rfl) (by kernel_rfl) (by kernel_rfl) (fun _ _ _ h => h) (Or.inl ⟨by rfl, ?y14⟩) (by assumption) ?r14
    case y14 =>
      intro wS hSw
      try dsimp only at hSw
      go_simp
      all_goals with_reducible rfl
    simp only [Act.put, List.setIfInBounds_toArray, List.set_cons_zero, List.set_cons_succ]
    refine' wpAnyH_take (i := 3) (oi := ?o15) (v := _) (by simp only [List.getElem?_toArray, List.getElem?_cons_succ, List.getElem?_cons_zero]; rfl) (by kernel_rfl) (by kernel_rfl) (by kernel_rfl) (fun _ _ _ h => h) (Or.inl ⟨by rfl, ?y15⟩) (by assumption) ?r15
    case y15 =>
      intro wS hSw
      try dsimp only at hSw
      go_simp
      all_goals with_reducible rfl
    simp only [Act.put, List.setIfInBounds_toArray, List.set_cons_zero, List.set_cons_succ]
    refine' wpAnyH_take (i := 4) (oi := ?o16) (v := _) (by simp only [List.getElem?_toArray, List.getElem?_cons_succ, List.getElem?_cons_zero]; rfl) (by kernel_rfl) (by kernel_rfl) (by kernel_rfl) (fun _ _ _ h => h) (Or.inl ⟨by rfl, ?y16⟩) (by assumption) ?r16
    case y16 =>
      intro wS hSw
      try dsimp only at hSw
      go_simp
      all_goals with_reducible rfl
    simp only [Act.put, List.setIfInBounds_toArray, List.set_cons_zero, List.set_cons_succ]
    refine' wpAnyH_take (i := 5) (oi := ?o17) (v := _) (by simp only [List.getElem?_toArray, List.getElem?_cons_succ, List.getElem?_cons_zero]; rfl) (by kernel_rfl) (by kernel_rfl) (by kernel_rfl) (fun _ _ _ h => h) (Or.inl ⟨by rfl, ?y17⟩) (by assumption) ?r17
    case y17 =>
      intro wS hSw
      try dsimp only at hSw
      go_simp
      all_goals with_reducible rfl
    simp only [Act.put, List.setIfInBounds_toArray, List.set_cons_zero, List.set_cons_succ]
    refine' wpAnyH_take (i := 6) (oi := ?o18) (v := _) (by simp only [List.getElem?_toArray, List.getElem?_cons_succ, List.getElem?_cons_zero]; rfl) (by kernel_rfl) (by kernel_rfl) (by kernel_rfl) (fun _ _ _ h => h) (Or.inl ⟨by rfl, ?y18⟩) (by assumption) ?r18
    case y18 =>
      intro wS hSw
      try dsimp only at hSw
      go_simp
      all_goals with_reducible rfl
    simp only [Act.put, List.setIfInBounds_toArray, List.set_cons_zero, List.set_cons_succ]
    refine' wpAnyH_take (i := 7) (oi := ?o19) (v := _) (by simp only [List.getElem?_toArray, List.getElem?_cons_succ, List.getElem?_cons_zero]; rfl) (by kernel_rfl) (by kernel_rfl) (by kernel_rfl) (fun _ _ _ h => h) (Or.inl ⟨by rfl, ?y19⟩) (by assumption) ?r19
    case y19 =>
      intro wS hSw
      try dsimp only at hSw
      go_simp
      all_goals with_reducible rfl
    simp only [Act.put, List.setIfInBounds_toArray, List.set_cons_zero, List.set_cons_succ]
    refine' wpAnyH_take (i := 8) (oi := ?o20) (v := _) (by simp only [List.getElem?_toArray, List.getElem?_cons_succ, List.getElem?_cons_zero]; rfl) (by kernel_rfl) (by kernel_rfl) (by kernel_rfl) (fun _ _ _ h => h) (Or.inl ⟨by rfl, ?y20⟩) (by assumption) ?r20
    case y20 =>
      intro wS hSw
      try dsimp only at hSw
      go_simp
      all_goals with_reducible rfl
    simp only [Act.put, List.setIfInBounds_toArray, List.set_cons_zero, List.set_cons_succ]
    refine wpAnyH_ready (rs := [9]) (by kernel_rfl) (by simp) ?_
    refine' AllReadyH.cons (o := ?o21) (by simp only [List.getElem?_toArray, List.getElem?_cons_succ, List.getElem?_cons_zero]; rfl) (fun K hK => ?s21) ?m21
    case m21 => exact AllReadyH.nil
    go_simp
    refine hK.out _ _ ?_ (fun hHeld => ?_)
    · obtain ⟨k0, k1, k2, k3, k4⟩ := KEEP0.out; exact ⟨(far3 _ _ _ _ _ (_, _) hne).trans k0, (far3 _ _ _ _ _ (_, _) hne).trans k1, (far3 _ _ _ _ _ (_, _) hne).trans k2, (far3 _ _ _ _ _ (w.heap.size, 1) (by show w.heap.size ≠ w.heap.size + 1; omega)).trans k3, (far3 _ _ _ _ _ (rb, 2) (by show rb ≠ w.heap.size + 1; omega)).trans k4⟩
    clear hK K
    try simp only [Act.put, List.setIfInBounds_toArray, List.set_cons_zero, List.set_cons_succ]
    refine' wpAnyH_take (i := 10) (oi := ?o22) (v := _) (by simp only [List.getElem?_toArray, List.getElem?_cons_succ, List.getElem?_cons_zero]; rfl) (by kernel_rfl) (by kernel_rfl) (by kernel_rfl) (fun _ _ _ h => h) (Or.inl ⟨by rfl, ?y22⟩) (by assumption) ?r22
    case y22 =>
      intro wS hSw
      try dsimp only at hSw
      go_simp
      all_goals with_reducible rfl
    simp only [Act.put, List.setIfInBounds_toArray, List.set_cons_zero, List.set_cons_succ]
    refine wpAnyH_done (by kernel_rfl) ?_ _
    refine NoPanic.normal ?_

    go_wp2
    refine bodyPost_ret (v := .tuple #[gv.args, .bool (decide (x.typ = r.typ))]) ?_ rfl ⟨by rw [HGV.out, HBO.out]; rfl, ?_⟩
    · rw [results_cell_tmp rfl]
      go_simp
    · exact (((HGD.out).setd (p := ⟨w.heap.size + 1, 0, none⟩) (by show w.heap.size ≤ w.heap.size + 1; omega) _).setd (p := ⟨w.heap.size + 1, 1, none⟩) (by show w.heap.size ≤ w.heap.size + 1; omega) _).setd (p := ⟨w.heap.size + 1, 2, none⟩) (by show w.heap.size ≤ w.heap.size + 1; omega) _
end Go.Hg

namespace Go.Hg
open Go.RowKit Go.Proofs MapKept Go.Maps

theorem entDoub : ∀ args w, (callFunc 102 args).run Tryz.prog w = .ok (.enter 102 args) w := fun args w => enterF Tryz.func102 (by kernel_rfl) rfl args w
theorem nodesMod {F S : Nat → Prop} {w w' : World} {v : Value} {l : List PNode} (h : NodesR S w v l) (g : Mod F w w') (hd : ∀ b, S b → ¬ F b) : NodesR S w' v l :=
  SlR.keep h (fun b hS hb => g.block b hb (hd b hS)) g.size (fun _ _ _ ⟨pv, hr, hp⟩ => ⟨pv, hr, hp.mod g hd⟩)
theorem ruleMod {F : Nat → Prop} {w w' : World} {b : Nat} {r : PRule} (h : RuleBox w b r) (g : Mod F w w') (hd : ¬ F b) : RuleBox w' b r := (g.block b (blk_lt h) hd).trans h

set_option maxRecDepth 100000 in
set_option maxHeartbeats 4000000 in
theorem checkDoubles (gv0 : Value) (N : List PNode) (E : List PEdge) (r : PRule) (w : World) (hg : GAt gv0 N E w) (hb : N.length ≤ 1099511627776) :
    Calls Tryz.prog 51 #[gv0, r.args] w (IdsPost ((N.filter (doubR N r)).map (·.id)) w) := by
  obtain ⟨iP, hiP, hzP0, hzP1, hzP2⟩ := info_parts infoInt
  have HGA := Lib.hid hg; have HBD := Lib.hid hb
  have entDoub := entDoub
  have HG := Lib.hid (show ∀ o1 o2, Grow w ((w.alloc o1).alloc o2) from fun o1 o2 => ((Grow.rfl' w).allocd o1).allocd o2)
  have HM0 := Lib.hid (show ∀ o1, MapK PVal.args ((w.alloc o1).alloc (.map #[] 0)) (w.heap.size + 1) (cntK ([] : List PVal)) 0 from fun o1 => by
    have h := MapK.made (kv := PVal.args) (w.alloc o1)
    rw [World.size_alloc] at h
    exact h)
  have HR0 := Lib.hid (show ∀ o2, RuleBox ((w.alloc (.cells #[.int .i64 r.id, .int .i64 r.kind, .string r.typ, .string r.name, .string r.from_, .string r.to_, .int .i64 r.n, .int .i64 r.state] 24 (0, 0))).alloc o2) w.heap.size r from fun o2 => by
    unfold RuleBox
    rw [((Grow.rfl' (w.alloc _)).allocd o2).heapEq (by simp)]
    exact heap_alloc_new w _)
  clear hg hb
  have hmm := @run_makeMap Tryz.prog
  go_enter Tryz.func51, Tryz.ntmps51
  go_wp2_with fail
  clear hmm
  refine (HGA.out _ (HG.out _ _)).1.mono ?_
  rintro e w2 ⟨v2, rfl, hn, hg2⟩
  obtain ⟨aa, ca, rfl, hal, hac, hA⟩ := SlR.open hn
  unfold maxLen at hac
  have HN := Lib.hid hn
  have HM2 := Lib.hid ((HM0.out _).grow hg2); have HR2 := Lib.hid ((HR0.out _).grow hg2)
  have HG2 := Lib.hid ((HG.out _ _).step hg2)
  have hs2 := hg2.size
  simp only [World.size_alloc] at hs2
  clear hn hg2 hA
  go_wp2
  go_loopg [21] N.length (fun g i wr => ∃ k : Nat, k ≤ N.length ∧ g = N.length - k ∧ i = .int .i64 k ∧ MapK PVal.args wr (w.heap.size + 1) (cntK ((N.take k).filterMap (valR r))) k ∧ RuleBox wr w.heap.size r ∧ Mod (fun q => q = w.heap.size + 1) w2 wr)
  case atStart => exact ⟨0, by omega, by omega, rfl, HM2.out, HR2.out, Mod.rfl' _ w2⟩
  case round =>
    obtain ⟨k, hk, rfl, rfl, hm, hrb, hmd⟩ := hrel
    have HM := Lib.hid hm; have HMD := Lib.hid hmd; have HRB0 := Lib.hid hrb
    have hml := hm.lt
    have hNr := nodesMod HN.out hmd (fun b hb => by simp at hb ⊢; omega)
    obtain ⟨_, _, hv, -, -, hA⟩ := SlR.open hNr
    simp only [Value.slice.injEq, true_and] at hv
    obtain ⟨rfl, rfl⟩ := hv
    clear hm hrb
    by_cases hkl : k < N.length
    · obtain ⟨ba, oa, ra, rfl, hSa, hba, hRa, hca⟩ := hA k N[k] (List.getElem?_eq_getElem hkl)
      obtain ⟨pva, hba', a0, a1, a2, hpa⟩ := hRa.at hba (Grow.rfl' wr) hca
      clear hca hRa hSa hba hA hNr hmd
      have HT := Lib.hid (show N.take (k + 1) = N.take k ++ [N[k]] from List.take_succ_eq_append_getElem hkl)
      generalize N[k] = x at *
      have HPA := Lib.hid hpa
      obtain ⟨_, _, rfl⟩ := hpa.isSlice
      have HW := Lib.hid (show ∀ o1, Grow wr (wr.alloc o1) from fun o1 => (Grow.rfl' wr).allocd o1)
      clear hpa
      obtain ⟨gv, hgv⟩ : ∃ gv, getV x.props r.name = gv := ⟨_, rfl⟩
      obtain ⟨bb, hbb⟩ : ∃ b, ((getP x.props r.name).isSome && decide (x.typ = r.typ)) = b := ⟨_, rfl⟩
      have HV := Lib.hid (show valR r x = if bb = true then some gv else none by rw [valR_eq, hgv, hbb])
      have HGV := Lib.hid hgv; have HBB := Lib.hid hbb
      clear hgv hbb
      go_wp2_with fail
      refine (doublesVal x _ w.heap.size r _ _ (HPA.out.grow (HW.out _)) (HRB0.out.grow (HW.out _))).mono ?_
      rintro e w3 ⟨rfl, hw3⟩
      rw [HGV.out, HBB.out]
      have HW3 := Lib.hid ((HW.out _).step hw3)
      have hsz := HMD.out.size
      have hml3 := (HM.out.grow HW3.out).lt
      clear hw3 a0 a1 a2 hml hba'
      have HM3 := Lib.hid (show MapK PVal.args (w3.alloc (.cells #[.int .i64 gv.kind, .int .i64 gv.n, .string gv.s] 42 (0, 0))).drew (w.heap.size + 1) (cntK ((N.take k).filterMap (valR r))) k from (HM.out.grow HW3.out).grow (((Grow.rfl' w3).allocd _).drewd))
      have HSTAY := Lib.hid (show ∀ o1, MapK PVal.args (w3.alloc o1) (w.heap.size + 1) (cntK ((N.take k).filterMap (valR r))) k ∧ RuleBox (w3.alloc o1) w.heap.size r ∧ Mod (fun q => q = w.heap.size + 1) w2 (w3.alloc o1) from fun o1 => ⟨(HM.out.grow HW3.out).grow ((Grow.rfl' w3).allocd o1), (HRB0.out.grow HW3.out).grow ((Grow.rfl' w3).allocd o1), (HMD.out.step (Mod.of_grow HW3.out)).allocd o1⟩)
      cases bb
      · have HV' := Lib.hid (show valR r x = none by rw [HV.out]; rfl)
        go_wp2
        go_roundg (N.length - (k + 1))
        case measure => omega
        case rel =>
          refine ⟨k + 1, by omega, rfl, by go_num, ?_, (HSTAY.out _).2.1, (HSTAY.out _).2.2⟩
          rw [HT.out, List.filterMap_append, List.filterMap_cons_none HV'.out]
          simpa using (HSTAY.out _).1.mono (by omega)
      · have HVS := Lib.hid (show valR r x = some gv by rw [HV.out]; rfl)
        clear HV
        have HV := HVS
        go_wp2_with fail
        have HMD3 := Lib.hid (show Mod (fun q => q = w.heap.size + 1) w2 (w3.alloc (.cells #[.int .i64 gv.kind, .int .i64 gv.n, .string gv.s] 42 (0, 0))).drew from (HSTAY.out _).2.2.drewd)
        have hnew : ∀ w' : World, (w'.heap[w3.heap.size]? = some (.cells #[.int .i64 gv.kind, .int .i64 gv.n, .string gv.s] 42 (0, 0))) → w'.cell? ⟨w3.heap.size, 0, none⟩ = some (.int .i64 gv.kind) ∧ w'.cell? ⟨w3.heap.size, 1, none⟩ = some (.int .i64 gv.n) ∧ w'.cell? ⟨w3.heap.size, 2, none⟩ = some (.string gv.s) := fun w' h => ⟨by rw [blk_cell h]; rfl, by rw [blk_cell h]; rfl, by rw [blk_cell h]; rfl⟩
        have hbx : (w3.alloc (.cells #[.int .i64 gv.kind, .int .i64 gv.n, .string gv.s] 42 (0, 0))).drew.heap[w3.heap.size]? = some (.cells #[.int .i64 gv.kind, .int .i64 gv.n, .string gv.s] 42 (0, 0)) := heap_alloc_new w3 _
        have KEEP0 := Lib.hid (hnew _ hbx)
        have KEEP5 := Lib.hid (show ∀ w5 : World, Mod (fun q => q = w.heap.size + 1) (w3.alloc (.cells #[.int .i64 gv.kind, .int .i64 gv.n, .string gv.s] 42 (0, 0))).drew w5 → _ from fun w5 h => hnew w5 ((h.block _ (blk_lt hbx) (by show ¬ w3.heap.size = w.heap.size + 1; omega)).trans hbx))
        have HRB := Lib.hid (show ∀ w5 : World, Mod (fun q => q = w.heap.size + 1) (w3.alloc (.cells #[.int .i64 gv.kind, .int .i64 gv.n, .string gv.s] 42 (0, 0))).drew w5 → RuleBox w5 w.heap.size r from fun w5 h => ruleMod (show RuleBox (w3.alloc (.cells #[.int .i64 gv.kind, .int .i64 gv.n, .string gv.s] 42 (0, 0))).drew w.heap.size r from (HSTAY.out _).2.1) h (by show ¬ w.heap.size = w.heap.size + 1; omega))
        clear hnew hbx
        have HWR := Lib.hid (show IntKind.i64.wrap ((((N.take k).filterMap (valR r)).count gv : Int) + 1) = (((N.take k).filterMap (valR r)).count gv : Int) + 1 by
          have h1 := List.count_le_length (a := gv) (l := (N.take k).filterMap (valR r))
          have h2 := List.length_filterMap_le (valR r) (N.take k)
          rw [List.length_take] at h2
          rw [IntKind.wrap_i64] <;> omega)
        refine wp_region_noPanic ?_
        refine wp_region_held_drew (S := fun w' => w'.cell? ⟨w3.heap.size, 0, none⟩ = some (.int .i64 gv.kind) ∧ w'.cell? ⟨w3.heap.size, 1, none⟩ = some (.int .i64 gv.n) ∧ w'.cell? ⟨w3.heap.size, 2, none⟩ = some (.string gv.s)) (by kernel_rfl) ?_ (fun hHeld => ?_)
        · exact KEEP0.out
        refine' wpAnyH_take (i := 0) (oi := ?o13) (v := _) (by simp only [List.getElem?_toArray, List.getElem?_cons_zero]; rfl) (by kernel_rfl) (by kernel_rfl) (by kernel_rfl) (fun _ _ _ h => h) (Or.inl ⟨by rfl, ?y13⟩) (by assumption) ?r13
        case y13 =>
          intro wS hSw
          try dsimp only at hSw
          go_simp
          all_goals with_reducible rfl
        simp only [Act.put, List.setIfInBounds_toArray, List.set_cons_zero, List.set_cons_succ]
        refine' wpAnyH_take (i := 1) (oi := ?o14) (v := _) (by simp only [List.getElem?_toArray, List.getElem?_cons_succ, List.getElem?_cons_zero]; rfl) (by kernel_rfl) (by kernel_rfl) (by kernel_rfl) (fun _ _ _ h => h) (Or.inl ⟨by rfl, ?y14⟩) (by assumption) ?r14
        case y14 =>
          intro wS hSw
          try dsimp only at hSw
          go_simp
          all_goals with_reducible rfl
        simp only [Act.put, List.setIfInBounds_toArray, List.set_cons_zero, List.set_cons_succ]
        refine wpAnyH_ready (rs := [2, 4]) (by kernel_rfl) (by simp) ?_
        refine' AllReadyH.cons (o := ?o15) (by simp only [List.getElem?_toArray, List.getElem?_cons_succ, List.getElem?_cons_zero]; rfl) (fun K hK => ?s15) ?m15
        rotate_left
        · refine' AllReadyH.cons (o := ?o16) (by simp only [List.getElem?_toArray, List.getElem?_cons_succ, List.getElem?_cons_zero]; rfl) (fun K hK => ?s16) ?m16
          case m16 => exact AllReadyH.nil
          refine step_entryK rfl (.tmp 32) (.tmp 33) 165 rfl 42 3 Tryz.underlying165 keyV (.int .i64 0) zeroIntV (by rfl) HM3.out gv (by rfl) _ (cntK_getD _ gv) ?_
          intro w5 s5 q1 q2 q3 q4
          refine hK.out _ _ ?_ (fun hHeld => ?_)
          · exact KEEP5.out w5 q3
          clear hK K
          try simp only [Act.put, List.setIfInBounds_toArray, List.set_cons_zero, List.set_cons_succ]
          refine' wpAnyH_take (i := 5) (oi := ?o17) (v := _) (by simp only [List.getElem?_toArray, List.getElem?_cons_succ, List.getElem?_cons_zero]; rfl) (by kernel_rfl) (by kernel_rfl) (by kernel_rfl) (fun _ _ _ h => h) (Or.inl ⟨by rfl, ?y17⟩) (by assumption) ?r17
          case y17 =>
            intro wS hSw
            try dsimp only at hSw
            go_simp
            all_goals with_reducible rfl
          simp only [Act.put, List.setIfInBounds_toArray, List.set_cons_zero, List.set_cons_succ]
          refine wpAnyH_ready (rs := [2]) (by kernel_rfl) (by simp) ?_
          refine' AllReadyH.cons (o := ?o18) (by simp only [List.getElem?_toArray, List.getElem?_cons_succ, List.getElem?_cons_zero]; rfl) (fun K hK => ?s18) ?m18
          case m18 => exact AllReadyH.nil
          refine step_lookK rfl (.tmp 32) (.tmp 33) 165 rfl 42 3 Tryz.underlying165 keyV (.int .i64 0) (zeroIntV _) (by rfl) q1 gv (by rfl) (.int .i64 (((N.take k).filterMap (valR r)).count gv : Int)) (by rw [kput_same]; rfl) ?_
          refine hK.out _ _ ?_ (fun hHeld => ?_)
          · exact KEEP5.out w5 q3
          clear hK K
          try simp only [Act.put, List.setIfInBounds_toArray, List.set_cons_zero, List.set_cons_succ]
          refine' wpAnyH_take (i := 3) (oi := ?o19) (v := _) (by simp only [List.getElem?_toArray, List.getElem?_cons_succ, List.getElem?_cons_zero]; rfl) (by kernel_rfl) (by kernel_rfl) (by kernel_rfl) (fun _ _ _ h => h) (Or.inl ⟨by rfl, ?y19⟩) (by assumption) ?r19
          case y19 =>
            intro wS hSw
            try dsimp only at hSw
            go_simp
            all_goals with_reducible rfl
          simp only [Act.put, List.setIfInBounds_toArray, List.set_cons_zero, List.set_cons_succ]
          refine wpAnyH_ready (rs := [6]) (by kernel_rfl) (by simp) ?_
          refine' AllReadyH.cons (o := ?o20) (by simp only [List.getElem?_toArray, List.getElem?_cons_succ, List.getElem?_cons_zero]; rfl) (fun K hK => ?s20) ?m20
          case m20 => exact AllReadyH.nil
          refine step_storeK rfl (.tmp 32) (.tmp 37) (.tmp 35) 165 rfl 42 keyV (by rfl) q1 gv s5 (by rfl) q2 (.int .i64 ((((N.take k).filterMap (valR r)).count gv : Int) + 1)) (by simp [Act.eval, HWR.out]) ?_
          intro w6 p1 p3 p4
          rw [kput_twice, ← kput_twice _ _ (.int .i64 0), cntK_step] at p1
          refine hK.out _ _ ?_ (fun hHeld => ?_)
          · exact KEEP5.out w6 (q3.step p3)
          clear hK K
          try simp only [Act.put]
          refine wpAnyH_done (by kernel_rfl) ?_ _
          refine NoPanic.normal ?_
          have HM6 := Lib.hid p1
          have HG6 := Lib.hid (HMD3.out.step (q3.step p3))
          have HB6 := Lib.hid (HRB.out w6 (q3.step p3))
          clear q1 q2 q3 q4 p1 p3 p4
          go_wp2
          go_roundg (N.length - (k + 1))
          case measure => omega
          case rel =>
            refine ⟨k + 1, by omega, rfl, by go_num, ?_, HB6.out, HG6.out⟩
            rw [HT.out, List.filterMap_append, List.filterMap_cons_some HV.out]
            exact HM6.out
        refine step_lookK rfl (.tmp 32) (.tmp 33) 165 rfl 42 3 Tryz.underlying165 keyV (.int .i64 0) (zeroIntV _) (by rfl) HM3.out gv (by rfl) _ (cntK_getD _ gv) ?_
        refine hK.out _ _ ?_ (fun hHeld => ?_)
        · exact KEEP0.out
        clear hK K
        try simp only [Act.put, List.setIfInBounds_toArray, List.set_cons_zero, List.set_cons_succ]
        refine' wpAnyH_take (i := 3) (oi := ?o21) (v := _) (by simp only [List.getElem?_toArray, List.getElem?_cons_succ, List.getElem?_cons_zero]; rfl) (by kernel_rfl) (by kernel_rfl) (by kernel_rfl) (fun _ _ _ h => h) (Or.inl ⟨by rfl, ?y21⟩) (by assumption) ?r21
        case y21 =>
          intro wS hSw
          try dsimp only at hSw
          go_simp
          all_goals with_reducible rfl
        simp only [Act.put, List.setIfInBounds_toArray, List.set_cons_zero, List.set_cons_succ]
        refine wpAnyH_ready (rs := [4]) (by kernel_rfl) (by simp) ?_
        refine' AllReadyH.cons (o := ?o22) (by simp only [List.getElem?_toArray, List.getElem?_cons_succ, List.getElem?_cons_zero]; rfl) (fun K hK => ?s22) ?m22
        case m22 => exact AllReadyH.nil
        refine step_entryK rfl (.tmp 32) (.tmp 33) 165 rfl 42 3 Tryz.underlying165 keyV (.int .i64 0) zeroIntV (by rfl) HM3.out gv (by rfl) _ (cntK_getD _ gv) ?_
        intro w5 s5 q1 q2 q3 q4
        refine hK.out _ _ ?_ (fun hHeld => ?_)
        · exact KEEP5.out w5 q3
        clear hK K
        try simp only [Act.put, List.setIfInBounds_toArray, List.set_cons_zero, List.set_cons_succ]
        refine' wpAnyH_take (i := 5) (oi := ?o23) (v := _) (by simp only [List.getElem?_toArray, List.getElem?_cons_succ, List.getElem?_cons_zero]; rfl) (by kernel_rfl) (by kernel_rfl) (by kernel_rfl) (fun _ _ _ h => h) (Or.inl ⟨by rfl, ?y23⟩) (by assumption) ?r23
        case y23 =>
          intro wS hSw
          try dsimp only at hSw
          go_simp
          all_goals with_reducible rfl
        simp only [Act.put, List.setIfInBounds_toArray, List.set_cons_zero, List.set_cons_succ]
        refine wpAnyH_ready (rs := [6]) (by kernel_rfl) (by simp) ?_
        refine' AllReadyH.cons (o := ?o24) (by simp only [List.getElem?_toArray, List.getElem?_cons_succ, List.getElem?_cons_zero]; rfl) (fun K hK => ?s24) ?m24
        case m24 => exact AllReadyH.nil
        refine step_storeK rfl (.tmp 32) (.tmp 37) (.tmp 35) 165 rfl 42 keyV (by rfl) q1 gv s5 (by rfl) q2 (.int .i64 ((((N.take k).filterMap (valR r)).count gv : Int) + 1)) (by simp [Act.eval, HWR.out]) ?_
        intro w6 p1 p3 p4
        rw [kput_twice, ← kput_twice _ _ (.int .i64 0), cntK_step] at p1
        refine hK.out _ _ ?_ (fun hHeld => ?_)
        · exact KEEP5.out w6 (q3.step p3)
        clear hK K
        try simp only [Act.put]
        refine wpAnyH_done (by kernel_rfl) ?_ _
        refine NoPanic.normal ?_
        have HM6 := Lib.hid p1
        have HG6 := Lib.hid (HMD3.out.step (q3.step p3))
        have HB6 := Lib.hid (HRB.out w6 (q3.step p3))
        clear q1 q2 q3 q4 p1 p3 p4
        go_wp2
        go_roundg (N.length - (k + 1))
        case measure => omega
        case rel =>
          refine ⟨k + 1, by omega, rfl, by go_num, ?_, HB6.out, HG6.out⟩
          rw [HT.out, List.filterMap_append, List.filterMap_cons_some HV.out]
          exact HM6.out
    · have hkk : N.take k = N := List.take_of_length_le (by omega)
      rw [hkk] at HM
      obtain ⟨wf, rfl⟩ : ∃ wf, wf = wr := ⟨_, rfl⟩
      have HG4 := Lib.hid (show Grow w wf from HG2.out.modd HMD.out (fun q hq => by rw [hq]; omega))
      clear hkk hNr hmd hA hml
      go_wp2_with fail
      refine (HGA.out _ HG4.out).1.mono ?_
      rintro e w3 ⟨v3, rfl, hn3, hg3⟩
      obtain ⟨ab, cb, rfl, hbl, hbc, hB⟩ := SlR.open hn3
      unfold maxLen at hbc
      have HB := Lib.hid hB
      have HM3 := Lib.hid (HM.out.grow hg3); have HR3 := Lib.hid (HRB0.out.grow hg3); have HG3 := Lib.hid (HG4.out.step hg3)
      have HI0 := Lib.hid (IdsW.nil w3.heap.size w3)
      clear hn3 hg3 hB
      go_wp2
      go_loopg [11, 42] N.length (fun g lv i wr => ∃ j : Nat, j ≤ N.length ∧ g = N.length - j ∧ i = .int .i64 j ∧ IdsW w3.heap.size wr lv (((N.take j).filter (doubR N r)).map (·.id)) ∧ Grow w3 wr)
      case atStart => exact ⟨0, by omega, by omega, rfl, HI0.out, Grow.rfl' w3⟩
      case round =>
        obtain ⟨j, hj, rfl, rfl, hi, hz⟩ := hrel
        obtain ⟨oa, co, rfl, _, _⟩ := hi.isSlice
        have HI := Lib.hid hi; have HZ := Lib.hid hz
        clear hi
        by_cases hjl : j < N.length
        · obtain ⟨ba, oa', ra, rfl, hSa, hba, hRa, hca⟩ := HB.out j N[j] (List.getElem?_eq_getElem hjl)
          obtain ⟨pva, hba', a0, a1, a2, hpa⟩ := hRa.at hba hz hca
          clear hca hRa hSa hba hz
          have HT := Lib.hid (show N.take (j + 1) = N.take j ++ [N[j]] from List.take_succ_eq_append_getElem hjl)
          have HLE := Lib.hid (show (((N.take j).filter (doubR N r)).map (·.id)).length ≤ N.length by
            rw [List.length_map]
            exact Nat.le_trans (List.length_filter_le _ _) (by rw [List.length_take]; omega))
          generalize N[j] = x at *
          have HPA := Lib.hid hpa
          obtain ⟨_, _, rfl⟩ := hpa.isSlice
          have HW := Lib.hid (show ∀ o1, Grow wr (wr.alloc o1) from fun o1 => (Grow.rfl' wr).allocd o1)
          have HNB := Lib.hid (show ∀ o1 w', Grow (wr.alloc o1) w' → w'.heap[wr.heap.size]? = some o1 from fun o1 w' hg => by rw [hg.heapEq (by simp)]; exact heap_alloc_new wr _)
          clear hpa
          obtain ⟨gv, hgv⟩ : ∃ gv, getV x.props r.name = gv := ⟨_, rfl⟩
          obtain ⟨bb, hbb⟩ : ∃ b, ((getP x.props r.name).isSome && decide (x.typ = r.typ)) = b := ⟨_, rfl⟩
          have HV := Lib.hid (show valR r x = if bb = true then some gv else none by rw [valR_eq, hgv, hbb])
          have HGV := Lib.hid hgv; have HBB := Lib.hid hbb
          clear hgv hbb
          generalize hfl : ((N.take j).filter (doubR N r)).map (·.id) = fl at *
          have HFF := Lib.hid hfl
          clear hfl
          go_wp2_with fail
          refine (doublesVal x _ w.heap.size r _ _ (HPA.out.grow (HW.out _)) ((HR3.out.grow HZ.out).grow (HW.out _))).mono ?_
          rintro e w4 ⟨rfl, hw4⟩
          rw [HGV.out, HBB.out]
          have hnb := HNB.out _ w4 hw4
          have hnl := blk_lt hnb
          have n0 : w4.cell? ⟨wr.heap.size, 0, none⟩ = some (.int .i64 x.id) := by rw [blk_cell hnb]; rfl
          have HW4 := Lib.hid ((HW.out _).step hw4)
          have HZ4 := Lib.hid (HZ.out.step HW4.out)
          clear hnb hw4 a0 a1 a2 hba'
          cases bb
          · have HD := Lib.hid (show ((N.take (j + 1)).filter (doubR N r)).map (·.id) = fl by
              rw [HT.out, List.filter_append, ← HFF.out]
              unfold doubR
              simp [HV.out])
            have HE := Lib.hid (show ∀ o1, Grow w3 (w4.alloc o1) ∧ IdsW w3.heap.size (w4.alloc o1) (.slice oa fl.length co) fl from fun o1 => ⟨HZ4.out.allocd o1, (HI.out.grow HW4.out).grow ((Grow.rfl' w4).allocd o1)⟩)
            go_wp2
            go_roundg (N.length - (j + 1))
            case measure => omega
            case rel => exact ⟨j + 1, by omega, rfl, by go_num, by rw [HD.out]; exact (HE.out _).2, (HE.out _).1⟩
          · obtain ⟨c, hcc⟩ : ∃ c, (N.filterMap (valR r)).count gv = c := ⟨_, rfl⟩
            have hlk : ∀ v1 v2 v3 : Value, v1 = .int .i64 gv.kind → v2 = .int .i64 gv.n → v3 = .string gv.s → (Instr.lookup 165 (.map (some (w.heap.size + 1))) (.agg #[v1, v2, v3]) false).run Tryz.prog (w4.alloc (.cells #[.int .i64 gv.kind, .int .i64 gv.n, .string gv.s] 42 (0, 0))) = .ok (.int .i64 (c : Int)) (w4.alloc (.cells #[.int .i64 gv.kind, .int .i64 gv.n, .string gv.s] 42 (0, 0))) := by
              rintro _ _ _ rfl rfl rfl
              have h := ((HM3.out.grow HZ4.out).grow ((Grow.rfl' w4).allocd (.cells #[.int .i64 gv.kind, .int .i64 gv.n, .string gv.s] 42 (0, 0)))).look Tryz.underlying165 keyV (zeroIntV _) gv
              rw [cntK_getD, hcc] at h
              exact h
            have hlk := hlk _ _ _ rfl rfl rfl
            have HI4 := Lib.hid (HI.out.grow HW4.out)
            by_cases h2 : 2 ≤ c
            · have HD := Lib.hid (show ((N.take (j + 1)).filter (doubR N r)).map (·.id) = fl ++ [x.id] by
                rw [HT.out, List.filter_append, ← HFF.out]
                simp [doubR, HV.out, hcc, h2])
              have hlt : decide ((1 : Int) < (c : Int)) = true := by simp; omega
              have HE := Lib.hid (show ∀ o1 o2, Grow w3 ((w4.alloc o1).alloc o2) ∧ IdsW w3.heap.size ((w4.alloc o1).alloc o2) (.slice oa fl.length co) fl from fun o1 o2 => ⟨(HZ4.out.allocd o1).allocd o2, HI4.out.grow (((Grow.rfl' w4).allocd o1).allocd o2)⟩)
              have hzs := HZ4.out.size
              go_wp2_with (at_builtin; go_must (refine wpList_append_I rfl (.tmp 59) (.tmp 62) 32 rfl Tryz.underlying32 w3.heap.size _ fl rfl (HE.out _ _).2 x.id _ rfl (rd1 _ _ _ (by simp)) (by simp; omega) (by have := HLE.out; have := HBD.out; omega) ?_))
              intro v5 w5 k1 k2 k3
              have H5 := Lib.hid k1; have HG5 := Lib.hid ((HE.out _ _).1.since k2 (Nat.le_refl _))
              clear k1 k2 k3
              go_wp2
              go_roundg (N.length - (j + 1))
              case measure => omega
              case rel => exact ⟨j + 1, by omega, rfl, by go_num, by rw [HD.out]; exact H5.out, HG5.out⟩
            · have HD := Lib.hid (show ((N.take (j + 1)).filter (doubR N r)).map (·.id) = fl by
                rw [HT.out, List.filter_append, ← HFF.out]
                simp [doubR, HV.out, hcc, h2])
              have hlt : decide ((1 : Int) < (c : Int)) = false := by simp; omega
              have HE := Lib.hid (show ∀ o1, Grow w3 (w4.alloc o1) ∧ IdsW w3.heap.size (w4.alloc o1) (.slice oa fl.length co) fl from fun o1 => ⟨HZ4.out.allocd o1, (HI.out.grow HW4.out).grow ((Grow.rfl' w4).allocd o1)⟩)
              go_wp2
              go_roundg (N.length - (j + 1))
              case measure => omega
              case rel => exact ⟨j + 1, by omega, rfl, by go_num, by rw [HD.out]; exact (HE.out _).2, (HE.out _).1⟩
        · have hkk : N.take j = N := List.take_of_length_le (by omega)
          rw [hkk] at HI
          simp only [hkk]
          clear hkk
          go_wp2
          go_ret
          exact (HI.out.base HG3.out.size).post (HG3.out.step HZ.out)
end Go.Hg

namespace Go.Hg
open Go.RowKit Go.Proofs

theorem gNode_of {S : Nat → Prop} {B : Nat} {G : PGraph} {w : World} (h : GraphRd 120 S w B G) (hi : GInv G) : GNode (.pointer (some ⟨B, 0, none⟩)) G.nodes w := fun w' g id =>
  (graphGetNode S B G id w' (h.grow g) hi.nodes (by have := hi.items; omega) (fun x hx => by have := (hi.nodesB x hx).2.2; omega)).mono fun e w2 hp => by
    unfold typeN
    rcases hp with ⟨⟨h0, rfl⟩ | ⟨x, pv, h0, rfl, hpv⟩, hg⟩
    · rw [h0]
      exact ⟨⟨_, _, _, _, _, rfl⟩, hg⟩
    · rw [h0]
      obtain ⟨_, _, rfl⟩ := hpv.isSlice
      exact ⟨⟨_, _, _, _, _, rfl⟩, hg⟩
set_option maxRecDepth 100000 in
set_option maxHeartbeats 1000000 in
theorem brokenNo (gv : Value) (N : List PNode) (E : List PEdge) (r : PRule) (w : World) (hf : formR r = false) :
    Calls Tryz.prog 16 #[gv, r.args] w (BrokPost N E r w) := by
  have HF := Lib.hid hf
  have HW := Lib.hid (show ∀ o1, Grow w (w.alloc o1) from fun o1 => (Grow.rfl' w).allocd o1)
  clear hf
  go_enter Tryz.func16, Tryz.ntmps16
  go_wp2_with fail
  refine (ruleForm r _).mono ?_
  rintro e w2 ⟨rfl, g2⟩
  have HG2 := Lib.hid ((HW.out _).step g2)
  rw [HF.out]
  clear g2
  go_wp2
  go_ret
  exact ⟨_, [], rfl, ⟨fun _ => rfl, fun h => absurd h (by rw [HF.out]; simp)⟩, ⟨none, 0, [], rfl, Nat.le_refl _, by simp [maxLen], rfl, by simp, by simp⟩, HG2.out⟩

set_option maxRecDepth 100000 in
set_option maxHeartbeats 1000000 in
theorem brokenUniq (gv : Value) (N : List PNode) (E : List PEdge) (r : PRule) (w : World) (hg : GAt gv N E w) (hb : N.length ≤ 1099511627776) (hf : formR r = true) (hk : r.kind = 1) :
    Calls Tryz.prog 16 #[gv, r.args] w (BrokPost N E r w) := by
  have HF := Lib.hid hf; have HK := Lib.hid hk; have HGA := Lib.hid hg; have HB := Lib.hid hb
  have HW := Lib.hid (show ∀ o1, Grow w (w.alloc o1) from fun o1 => (Grow.rfl' w).allocd o1)
  clear hf hk hg hb
  go_enter Tryz.func16, Tryz.ntmps16
  go_wp2_with fail
  refine (ruleForm r _).mono ?_
  rintro e w2 ⟨rfl, g2⟩
  have HG2 := Lib.hid ((HW.out _).step g2)
  obtain ⟨hrl, c1, c2, c3, c4, c5, c6, c7, c0⟩ := (ruleBoxNew w r w2 g2).cells
  rw [HF.out]
  rw [HK.out] at c1
  clear g2
  go_wp2_with fail
  rw [← HK.out]
  refine (checkDoubles gv N E r _ (HGA.out.grow HG2.out) HB.out).mono ?_
  intro e w3 h3
  obtain ⟨v3, rfl, hi, g3⟩ := h3.toR
  have HR := Lib.hid (BrokPost.of (N := N) (E := E) (r := r) ⟨fun h => absurd h (by rw [HF.out]; simp), fun _ => by unfold BrkR; rw [if_pos HK.out]⟩ hi HG2.out g3)
  clear h3 hi g3 c1 c2 c3 c4 c5 c6 c7 c0
  go_wp2
  go_ret
  exact HR.out

set_option maxRecDepth 100000 in
set_option maxHeartbeats 2000000 in
theorem brokenExists (gv : Value) (N : List PNode) (E : List PEdge) (r : PRule) (w : World) (hg : GAt gv N E w) (hb : N.length ≤ 1099511627776) (hf : formR r = true) (hk : r.kind = 2) :
    Calls Tryz.prog 16 #[gv, r.args] w (BrokPost N E r w) := by
  have HF := Lib.hid hf; have HK := Lib.hid hk; have HGA := Lib.hid hg; have HBD := Lib.hid hb
  have HW := Lib.hid (show ∀ o1, Grow w (w.alloc o1) from fun o1 => (Grow.rfl' w).allocd o1)
  clear hf hk hg hb
  go_enter Tryz.func16, Tryz.ntmps16
  go_wp2_with fail
  refine (ruleForm r _).mono ?_
  rintro e w2 ⟨rfl, g2⟩
  have HG2 := Lib.hid ((HW.out _).step g2)
  have HRB := Lib.hid (ruleBoxNew w r w2 g2)
  obtain ⟨hrl, c1, c2, c3, c4, c5, c6, c7, c0⟩ := HRB.out.cells
  rw [HF.out]
  rw [HK.out] at c1
  clear g2
  go_wp2_with fail
  refine (HGA.out _ HG2.out).1.mono ?_
  rintro e w3 ⟨v3, rfl, hn3, hg3⟩
  obtain ⟨ab, cb, rfl, hbl, hbc, hB⟩ := SlR.open hn3
  unfold maxLen at hbc
  have HB := Lib.hid hB
  have HR3 := Lib.hid (HRB.out.grow hg3); have HG3 := Lib.hid (HG2.out.step hg3)
  have HI0 := Lib.hid (IdsW.nil w3.heap.size w3)
  clear hn3 hg3 hB hrl c1 c2 c3 c4 c5 c6 c7 c0
  go_wp2
  go_loopg [5, 35] N.length (fun g lv i wr => ∃ j : Nat, j ≤ N.length ∧ g = N.length - j ∧ i = .int .i64 j ∧ IdsW w3.heap.size wr lv (((N.take j).filter (lacksR r)).map (·.id)) ∧ Grow w3 wr)
  case atStart => exact ⟨0, by omega, by omega, rfl, HI0.out, Grow.rfl' w3⟩
  case round =>
    obtain ⟨j, hj, rfl, rfl, hi, hz⟩ := hrel
    obtain ⟨oa, co, rfl, _, _⟩ := hi.isSlice
    have HI := Lib.hid hi; have HZ := Lib.hid hz
    clear hi
    by_cases hjl : j < N.length
    · obtain ⟨ba, oa', ra, rfl, hSa, hba, hRa, hca⟩ := HB.out j N[j] (List.getElem?_eq_getElem hjl)
      obtain ⟨pva, hba', a0, a1, a2, hpa⟩ := hRa.at hba hz hca
      clear hca hRa hSa hba hz
      have HT := Lib.hid (show N.take (j + 1) = N.take j ++ [N[j]] from List.take_succ_eq_append_getElem hjl)
      have HLE := Lib.hid (show (((N.take j).filter (lacksR r)).map (·.id)).length ≤ N.length by
        rw [List.length_map]
        exact Nat.le_trans (List.length_filter_le _ _) (by rw [List.length_take]; omega))
      generalize N[j] = x at *
      have HPA := Lib.hid hpa
      obtain ⟨_, _, rfl⟩ := hpa.isSlice
      have HWR := Lib.hid (show ∀ o1, Grow wr (wr.alloc o1) from fun o1 => (Grow.rfl' wr).allocd o1)
      have HNB := Lib.hid (show ∀ o1 w', Grow (wr.alloc o1) w' → w'.heap[wr.heap.size]? = some o1 from fun o1 w' hg => by rw [hg.heapEq (by simp)]; exact heap_alloc_new wr _)
      obtain ⟨hrl, c1, c2, c3, c4, c5, c6, c7, c0⟩ := (HR3.out.grow HZ.out).cells
      clear hpa c1 c4 c5 c6 c7 c0
      obtain ⟨gv1, hgv⟩ : ∃ gv, getV x.props r.name = gv := ⟨_, rfl⟩
      obtain ⟨bo, hbo⟩ : ∃ b, (getP x.props r.name).isSome = b := ⟨_, rfl⟩
      obtain ⟨bt, hbt⟩ : ∃ b, decide (x.typ = r.typ) = b := ⟨_, rfl⟩
      have HV := Lib.hid (show lacksR r x = (bt && !bo) by unfold lacksR; rw [hbt, ← hbo]; cases getP x.props r.name <;> rfl)
      have HGV := Lib.hid hgv; have HBO := Lib.hid hbo
      clear hgv hbo
      generalize hfl : ((N.take j).filter (lacksR r)).map (·.id) = fl at *
      have HFF := Lib.hid hfl
      clear hfl
      go_wp2_with fail
      refine (valGet _ _ x.props r.name _ (HPA.out.grow (HWR.out _))).mono ?_
      rintro e w4 ⟨rfl, hw4⟩
      rw [HGV.out, HBO.out]
      have hnb := HNB.out _ w4 hw4
      have hnl := blk_lt hnb
      have n0 : w4.cell? ⟨wr.heap.size, 0, none⟩ = some (.int .i64 x.id) := by rw [blk_cell hnb]; rfl
      have n1 : w4.cell? ⟨wr.heap.size, 1, none⟩ = some (.string x.typ) := by rw [blk_cell hnb]; rfl
      have HW4 := Lib.hid ((HWR.out _).step hw4)
      have HZ4 := Lib.hid (HZ.out.step HW4.out)
      clear hnb hw4 a0 a1 a2 hba' hrl c2 c3
      obtain ⟨hrl, c1, c2, c3, c4, c5, c6, c7, c0⟩ := ((HR3.out.grow HZ.out).grow HW4.out).cells
      clear c1 c3 c4 c5 c6 c7 c0
      have HI4 := Lib.hid (HI.out.grow HW4.out)
      have HE1 := Lib.hid (show ∀ o1, Grow w3 (w4.alloc o1) ∧ IdsW w3.heap.size (w4.alloc o1) (.slice oa fl.length co) fl from fun o1 => ⟨HZ4.out.allocd o1, HI4.out.grow ((Grow.rfl' w4).allocd o1)⟩)
      have HE2 := Lib.hid (show ∀ o1 o2, Grow w3 ((w4.alloc o1).alloc o2) ∧ IdsW w3.heap.size ((w4.alloc o1).alloc o2) (.slice oa fl.length co) fl from fun o1 o2 => ⟨(HZ4.out.allocd o1).allocd o2, HI4.out.grow (((Grow.rfl' w4).allocd o1).allocd o2)⟩)
      have hzs := HZ4.out.size
      by_cases h2 : lacksR r x = true
      · have HD := Lib.hid (show ((N.take (j + 1)).filter (lacksR r)).map (·.id) = fl ++ [x.id] by
          rw [HT.out, List.filter_append, ← HFF.out]
          simp [h2])
        obtain ⟨rfl, rfl⟩ : bt = true ∧ bo = false := by
          have h3 := HV.out.symm.trans h2
          cases bt <;> cases bo <;> first | exact ⟨rfl, rfl⟩ | cases h3
        clear h2
        go_wp2_with (at_builtin; go_must (refine wpList_append_I rfl (.tmp 56) (.tmp 59) 32 rfl Tryz.underlying32 w3.heap.size _ fl rfl (HE2.out _ _).2 x.id _ rfl (rd1 _ _ _ (by simp)) (by simp; omega) (by have := HLE.out; have := HBD.out; omega) ?_))
        intro v5 w5 k1 k2 k3
        have H5 := Lib.hid k1; have HG5 := Lib.hid ((HE2.out _ _).1.since k2 (Nat.le_refl _))
        clear k1 k2 k3
        go_wp2
        go_roundg (N.length - (j + 1))
        case measure => omega
        case rel => exact ⟨j + 1, by omega, rfl, by go_num, by rw [HD.out]; exact H5.out, HG5.out⟩
      · have HD := Lib.hid (show ((N.take (j + 1)).filter (lacksR r)).map (·.id) = fl by
          rw [HT.out, List.filter_append, ← HFF.out]
          simp [h2])
        have h3 : (bt && !bo) = false := by rw [← HV.out]; simpa using h2
        clear h2
        cases bt
        · go_wp2
          go_roundg (N.length - (j + 1))
          case measure => omega
          case rel => exact ⟨j + 1, by omega, rfl, by go_num, by rw [HD.out]; exact (HE1.out _).2, (HE1.out _).1⟩
        · cases bo
          · cases h3
          · clear h3
            go_wp2
            go_roundg (N.length - (j + 1))
            case measure => omega
            case rel => exact ⟨j + 1, by omega, rfl, by go_num, by rw [HD.out]; exact (HE1.out _).2, (HE1.out _).1⟩
    · have hkk : N.take j = N := List.take_of_length_le (by omega)
      rw [hkk] at HI
      simp only [hkk]
      have HR := Lib.hid (BrokPost.of (N := N) (E := E) (r := r) ⟨fun h => absurd h (by rw [HF.out]; simp), fun _ => by unfold BrkR; rw [if_neg (by have := HK.out; omega), if_pos HK.out]⟩ HI.out.toR HG3.out HZ.out)
      clear hkk
      go_wp2
      go_ret
      exact HR.out
end Go.Hg

namespace Go.Hg
open Go.RowKit Go.Proofs

set_option maxRecDepth 100000 in
set_option maxHeartbeats 4000000 in
theorem ref15First (S S' : Nat → Prop) (nv ev lv : Value) (N : List PNode) (E : List PEdge) (l : List PRule) (w : World) (hn : NodesR S w nv N) (he : EdgesR S w ev E) (hl : SlR S' w 8 RRule lv l) (hb : N.length ≤ 1099511627776) (hb2 : E.length ≤ 1099511627776) :
    Calls Tryz.prog 77 #[nv, ev, lv] w fun e w' => e = .returned (.tuple #[.int .i64 ((firstR N E l).getD 0), .bool (firstR N E l).isSome]) ∧ Grow w w' := by
  have HN := Lib.hid hn; have HE := Lib.hid he; have HB := Lib.hid hb; have HB2 := Lib.hid hb2
  obtain ⟨_, _, rfl, _⟩ := SlR.open hn
  obtain ⟨_, _, rfl, _⟩ := SlR.open he
  obtain ⟨al, cl, rfl, hll, hlc, hL⟩ := SlR.open hl
  unfold maxLen at hlc
  have HL := Lib.hid hL
  clear hn he hl hb hb2 hL
  go_enter Tryz.func77, Tryz.ntmps77
  go_wp2
  go_loopg [8, 9, 10] l.length (fun g iv sv kv wr => ∃ (k : Nat) (o : Option Int) (i : Int) (b : Bool), k ≤ l.length ∧ g = l.length - k ∧ kv = .int .i64 k ∧ o = firstR N E (l.take k) ∧ i = o.getD 0 ∧ b = o.isSome ∧ iv = .int .i64 i ∧ sv = .bool b ∧ Grow w wr)
  case atStart => exact ⟨0, none, 0, false, by omega, by omega, rfl, rfl, rfl, rfl, rfl, rfl, Grow.rfl' w⟩
  case round =>
    obtain ⟨k, o, i, b, hk, rfl, rfl, ho, hi, hb, rfl, rfl, hg⟩ := hrel
    have HO := Lib.hid ho; have HI := Lib.hid hi; have HBB := Lib.hid hb; have HG := Lib.hid hg
    clear ho hi hb hg
    by_cases hkl : k < l.length
    · obtain ⟨ba, oa, ra, rfl, hSa, hba, hRa, hca⟩ := HL.out k l[k] (List.getElem?_eq_getElem hkl)
      have HX := Lib.hid (show ∀ w', Grow w w' → _ from fun w' g => ruleAt hRa hba g hca)
      clear hca hRa hSa hba
      have HT := Lib.hid (show l.take (k + 1) = l.take k ++ [l[k]] from List.take_succ_eq_append_getElem hkl)
      generalize l[k] = r at *
      have HS := Lib.hid (show firstR N E (l.take (k + 1)) = firstS N E o r by rw [HT.out, firstR_snoc, HO.out])
      obtain ⟨hbl, c0, c1, c2, c3, c4, c5, c6, c7⟩ := HX.out wr HG.out
      obtain ⟨bs, hbs⟩ : ∃ b, (r.state == 2) = b := ⟨_, rfl⟩
      obtain ⟨bk, hbk⟩ : ∃ b, keepR N E r = b := ⟨_, rfl⟩
      have HBK := Lib.hid hbk
      have HBR := Lib.hid (show badR N E r = (bs && !bk) by unfold badR; rw [← hbs, hbk, int_beq])
      clear hbk
      have HE1 := Lib.hid (show ∀ w', Grow wr w' → Grow w w' from fun w' g => HG.out.step g)
      cases bs
      · go_wp2
        go_roundg (l.length - (k + 1))
        case measure => omega
        case rel => exact ⟨k + 1, o, i, b, by omega, rfl, by go_num, by rw [HS.out]; unfold firstS; rw [HBR.out]; rfl, HI.out, HBB.out, rfl, rfl, HG.out⟩
      · go_wp2_with fail
        refine (ref15Keeps S _ _ N E r _ (HN.out.grow HG.out) (HE.out.grow HG.out) HB.out HB2.out).mono ?_
        rintro e w3 ⟨rfl, hg3⟩
        rw [HBK.out]
        have HG3 := Lib.hid (HG.out.step hg3)
        clear hg3 c0 c1 c2 c3 c4 c5 c6 c7 hbl
        obtain ⟨hbl, c0, c1, c2, c3, c4, c5, c6, c7⟩ := HX.out w3 HG3.out
        clear c1 c2 c3 c4 c5 c6 c7
        cases bk
        · cases o with
          | none =>
            obtain rfl : b = false := HBB.out
            have HF := Lib.hid (show some r.id = firstR N E (l.take (k + 1)) by rw [HS.out]; unfold firstS; rw [HBR.out]; rfl)
            go_wp2
            go_roundg (l.length - (k + 1))
            case measure => omega
            case rel => exact ⟨k + 1, some r.id, r.id, true, by omega, rfl, by go_num, HF.out, rfl, rfl, rfl, rfl, HG3.out⟩
          | some m =>
            obtain rfl : b = true := HBB.out
            obtain rfl : i = m := HI.out
            obtain ⟨bl, hbl2⟩ : ∃ b, decide (r.id < i) = b := ⟨_, rfl⟩
            have HBL := Lib.hid hbl2
            cases bl
            · have HF := Lib.hid (show some i = firstR N E (l.take (k + 1)) by rw [HS.out]; unfold firstS; rw [HBR.out]; have := of_decide_eq_false HBL.out; simp [this])
              go_wp2
              go_roundg (l.length - (k + 1))
              case measure => omega
              case rel => exact ⟨k + 1, some i, i, true, by omega, rfl, by go_num, HF.out, rfl, rfl, rfl, rfl, HG3.out⟩
            · have HF := Lib.hid (show some r.id = firstR N E (l.take (k + 1)) by rw [HS.out]; unfold firstS; rw [HBR.out]; have := of_decide_eq_true HBL.out; simp [this])
              go_wp2
              go_roundg (l.length - (k + 1))
              case measure => omega
              case rel => exact ⟨k + 1, some r.id, r.id, true, by omega, rfl, by go_num, HF.out, rfl, rfl, rfl, rfl, HG3.out⟩
        · go_wp2
          go_roundg (l.length - (k + 1))
          case measure => omega
          case rel => exact ⟨k + 1, o, i, b, by omega, rfl, by go_num, by rw [HS.out]; unfold firstS; rw [HBR.out]; rfl, HI.out, HBB.out, rfl, rfl, HG3.out⟩
    · have hkk : l.take k = l := List.take_of_length_le (by omega)
      have HR := Lib.hid (show i = (firstR N E l).getD 0 ∧ b = (firstR N E l).isSome by rw [HI.out, HBB.out, HO.out, hkk]; exact ⟨rfl, rfl⟩)
      clear hkk
      go_wp2
      go_ret2
      exact ⟨by rw [← HR.out.1, ← HR.out.2]; rfl, HG.out⟩
end Go.Hg

namespace Go.Hg
open Go.RowKit Go.Proofs

set_option maxRecDepth 100000 in
set_option maxHeartbeats 2000000 in
theorem ref21Whole (S S' : Nat → Prop) (B : Nat) (G : PGraph) (nv ev rv iv nx : Value) (l : List PRule) (w : World) (hg : GraphOk 55 S w B G) (hl : SlR S' w 8 RRule rv l) (hb : G.nodes.length ≤ 1099511627776) (hb2 : G.edges.length ≤ 1099511627776)
    (hv : (∃ a n c, nv = .slice a n c) ∧ (∃ a n c, ev = .slice a n c) ∧ (∃ a n c, iv = .slice a n c) ∧ ∃ n, nx = .int .i64 n) :
    Calls Tryz.prog 29 #[.agg #[nv, ev, rv, iv, nx], .pointer (some ⟨B, 0, none⟩)] w fun e w' => e = .returned (.tuple #[.int .i64 ((firstR G.nodes G.edges l).getD 0), .int .i64 (errR (firstR G.nodes G.edges l))]) ∧ Grow w w' := by
  obtain ⟨⟨_, _, _, rfl⟩, ⟨_, _, _, rfl⟩, ⟨_, _, _, rfl⟩, ⟨_, rfl⟩⟩ := hv
  have HL := Lib.hid hl
  obtain ⟨_, _, rfl, _⟩ := SlR.open hl
  obtain ⟨na, nc, ea, ec, hB, g0, g1, g2, hn, he⟩ := hg.read
  have HN := Lib.hid hn; have HE := Lib.hid he; have HB1 := Lib.hid hb; have HB2 := Lib.hid hb2
  have HW := Lib.hid (show ∀ o1, Grow w (w.alloc o1) from fun o1 => (Grow.rfl' w).allocd o1)
  obtain ⟨o, ho⟩ : ∃ o, firstR G.nodes G.edges l = o := ⟨_, rfl⟩
  have HO := Lib.hid ho
  clear hl hg hn he hb hb2 ho
  have HC := Lib.hid (show ∀ (W : World) (g : Gr W), Grow w W → Calls Tryz.prog 77 _ g.x _ from fun W g hg => ref15First S S' _ _ _ G.nodes G.edges l g.x (HN.out.grow (hg.step g.h)) (HE.out.grow (hg.step g.h)) (rulesGrow HL.out (hg.step g.h)) HB1.out HB2.out)
  simp only [HO.out] at HC
  cases o with
  | none =>
    go_enter Tryz.func29, Tryz.ntmps29
    go_wp2_with fail
    refine wp_region_grow (by kernel_rfl) (by kernel_rfl) ?_
    repeat (go_big_quiet_step (exact calls_gr (HC.out _ _ (HW.out _))))
    refine wpQuiet_nil ?_
    intro w3 hw3
    have HG3 := Lib.hid ((HW.out _).step hw3)
    clear hw3
    go_wp2
    go_ret2
    exact ⟨by rw [HO.out]; rfl, HG3.out⟩
  | some m =>
    go_enter Tryz.func29, Tryz.ntmps29
    go_wp2_with fail
    refine wp_region_grow (by kernel_rfl) (by kernel_rfl) ?_
    repeat (go_big_quiet_step (exact calls_gr (HC.out _ _ (HW.out _))))
    refine wpQuiet_nil ?_
    intro w3 hw3
    have HG3 := Lib.hid ((HW.out _).step hw3)
    clear hw3
    go_wp2
    go_ret2
    exact ⟨by rw [HO.out]; rfl, HG3.out⟩

end Go.Hg

namespace Go.Hg
open Go.RowKit Go.Maps Go.Sort Go.Shelf Go.Proofs

def keysA_ren : Go.Shelf.Ren := ⟨fun | 7 => 57 | 10 => 106 | n => n, fun | 23 => 101 | 26 => 2 | 3 => 3 | 28 => 106 | 0 => 0 | 27 => 105 | 33 => 169 | 4 => 4 | n => n, fun | n => n⟩
theorem keysA : SlLaysZI.n7 Tryz.prog keysA_ren := {
  mixed := by kernel_rfl,
  f7 := ⟨Tryz.f57.name, by decide, Tryz.func57.trans (congrArg some (by kernel_rfl))⟩,
  f10 := ⟨Tryz.f106.name, by decide, Tryz.func106.trans (congrArg some (by kernel_rfl))⟩,
  t0 := Tryz.underlying0,
  a0 := Tryz.isAgg0,
  z0 := Tryz.sizeOf0,
  v0 := Tryz.zeroValue0,
  t4 := Tryz.underlying4,
  a4 := Tryz.isAgg4,
  z4 := Tryz.sizeOf4,
  v4 := Tryz.zeroValue4,
  t23 := Tryz.underlying101,
  a23 := Tryz.isAgg101,
  z23 := Tryz.sizeOf101,
  v23 := Tryz.zeroValue101,
  t26 := Tryz.underlying2,
  a26 := Tryz.isAgg2,
  z26 := Tryz.sizeOf2,
  v26 := Tryz.zeroValue2,
  t27 := Tryz.underlying105,
  a27 := Tryz.isAgg105,
  z27 := Tryz.sizeOf105,
  v27 := Tryz.zeroValue105,
  t28 := Tryz.underlying106,
  a28 := Tryz.isAgg106,
  z28 := Tryz.sizeOf106,
  v28 := Tryz.zeroValue106,
  t33 := Tryz.underlying169,
  a33 := Tryz.isAgg169,
  z33 := Tryz.sizeOf169,
  v33 := Tryz.zeroValue169 }
def sortedA_ren : Go.Shelf.Ren := ⟨fun | 6 => 56 | 8 => 104 | 9 => 105 | 11 => 148 | 13 => 150 | 12 => 149 | 23 => 182 | 24 => 183 | 14 => 173 | 15 => 174 | 16 => 175 | 17 => 176 | 18 => 177 | 19 => 178 | 20 => 179 | 21 => 180 | 22 => 181 | 25 => 205 | 26 => 206 | 27 => 207 | 28 => 208 | 29 => 209 | 30 => 210 | 31 => 225 | n => n, fun | 26 => 2 | 28 => 106 | 24 => 32 | 0 => 0 | 3 => 3 | 37 => 205 | 48 => 228 | 50 => 230 | 4 => 4 | 40 => 221 | 39 => 220 | 45 => 137 | 5 => 5 | 9 => 9 | 51 => 252 | 55 => 256 | 57 => 267 | 58 => 63 | 33 => 169 | n => n, fun | n => n⟩
theorem sortedA : SlLaysZI.n6 Tryz.prog sortedA_ren := {
  mixed := by kernel_rfl,
  f6 := ⟨Tryz.f56.name, by decide, Tryz.func56.trans (congrArg some (by kernel_rfl))⟩,
  f8 := ⟨Tryz.f104.name, by decide, Tryz.func104.trans (congrArg some (by kernel_rfl))⟩,
  f11 := ⟨Tryz.f148.name, by decide, Tryz.func148.trans (congrArg some (by kernel_rfl))⟩,
  t0 := Tryz.underlying0,
  a0 := Tryz.isAgg0,
  z0 := Tryz.sizeOf0,
  v0 := Tryz.zeroValue0,
  t24 := Tryz.underlying32,
  a24 := Tryz.isAgg32,
  z24 := Tryz.sizeOf32,
  v24 := Tryz.zeroValue32,
  t26 := Tryz.underlying2,
  a26 := Tryz.isAgg2,
  z26 := Tryz.sizeOf2,
  v26 := Tryz.zeroValue2,
  t28 := Tryz.underlying106,
  a28 := Tryz.isAgg106,
  z28 := Tryz.sizeOf106,
  v28 := Tryz.zeroValue106,
  i26 := by kernel_rfl }
def sortA_ren : Go.Shelf.Ren := ⟨fun | 5 => 105 | 8 => 150 | 7 => 149 | 19 => 182 | 20 => 183 | 10 => 173 | 11 => 174 | 12 => 175 | 13 => 176 | 14 => 177 | 15 => 178 | 16 => 179 | 17 => 180 | 18 => 181 | 30 => 205 | 31 => 206 | 32 => 207 | 33 => 208 | 34 => 209 | 35 => 210 | 40 => 225 | n => n, fun | 23 => 32 | 25 => 2 | 3 => 3 | 32 => 205 | 22 => 32 | 0 => 0 | 44 => 228 | 46 => 230 | 4 => 4 | 36 => 221 | 35 => 220 | 41 => 137 | 5 => 5 | 9 => 9 | 53 => 252 | 57 => 256 | 63 => 267 | 64 => 63 | n => n, fun | n => n⟩
theorem sortA : SlLaysM.n5 Tryz.prog sortA_ren := {
  mixed := by kernel_rfl,
  f5 := ⟨Tryz.f105.name, by decide, Tryz.func105.trans (congrArg some (by kernel_rfl))⟩,
  f7 := ⟨Tryz.f149.name, by decide, Tryz.func149.trans (congrArg some (by kernel_rfl))⟩,
  f8 := Tryz.func150.trans (congrArg some (by kernel_rfl)),
  f10 := ⟨Tryz.f173.name, by decide, Tryz.func173.trans (congrArg some (by kernel_rfl))⟩,
  f11 := ⟨Tryz.f174.name, by decide, Tryz.func174.trans (congrArg some (by kernel_rfl))⟩,
  f12 := ⟨Tryz.f175.name, by decide, Tryz.func175.trans (congrArg some (by kernel_rfl))⟩,
  f13 := ⟨Tryz.f176.name, by decide, Tryz.func176.trans (congrArg some (by kernel_rfl))⟩,
  f14 := ⟨Tryz.f177.name, by decide, Tryz.func177.trans (congrArg some (by kernel_rfl))⟩,
  f15 := ⟨Tryz.f178.name, by decide, Tryz.func178.trans (congrArg some (by kernel_rfl))⟩,
  f16 := ⟨Tryz.f179.name, by decide, Tryz.func179.trans (congrArg some (by kernel_rfl))⟩,
  f17 := ⟨Tryz.f180.name, by decide, Tryz.func180.trans (congrArg some (by kernel_rfl))⟩,
  f18 := ⟨Tryz.f181.name, by decide, Tryz.func181.trans (congrArg some (by kernel_rfl))⟩,
  f19 := Tryz.func182.trans (congrArg some (by kernel_rfl)),
  f20 := Tryz.func183.trans (congrArg some (by kernel_rfl)),
  f30 := ⟨Tryz.f205.name, by decide, Tryz.func205.trans (congrArg some (by kernel_rfl))⟩,
  f31 := Tryz.func206.trans (congrArg some (by kernel_rfl)),
  f32 := Tryz.func207.trans (congrArg some (by kernel_rfl)),
  f33 := ⟨Tryz.f208.name, by decide, Tryz.func208.trans (congrArg some (by kernel_rfl))⟩,
  f34 := ⟨Tryz.f209.name, by decide, Tryz.func209.trans (congrArg some (by kernel_rfl))⟩,
  f35 := ⟨Tryz.f210.name, by decide, Tryz.func210.trans (congrArg some (by kernel_rfl))⟩,
  f40 := ⟨Tryz.f225.name, by decide, Tryz.func225.trans (congrArg some (by kernel_rfl))⟩,
  t0 := Tryz.underlying0,
  a0 := Tryz.isAgg0,
  z0 := Tryz.sizeOf0,
  v0 := Tryz.zeroValue0,
  t3 := Tryz.underlying3,
  a3 := Tryz.isAgg3,
  z3 := Tryz.sizeOf3,
  v3 := Tryz.zeroValue3,
  t4 := Tryz.underlying4,
  a4 := Tryz.isAgg4,
  z4 := Tryz.sizeOf4,
  v4 := Tryz.zeroValue4,
  t5 := Tryz.underlying5,
  a5 := Tryz.isAgg5,
  z5 := Tryz.sizeOf5,
  v5 := Tryz.zeroValue5,
  t9 := Tryz.underlying9,
  a9 := Tryz.isAgg9,
  z9 := Tryz.sizeOf9,
  v9 := Tryz.zeroValue9,
  t22 := Tryz.underlying32,
  a22 := Tryz.isAgg32,
  z22 := Tryz.sizeOf32,
  v22 := Tryz.zeroValue32,
  t23 := Tryz.underlying32,
  a23 := Tryz.isAgg32,
  z23 := Tryz.sizeOf32,
  v23 := Tryz.zeroValue32,
  t25 := Tryz.underlying2,
  a25 := Tryz.isAgg2,
  z25 := Tryz.sizeOf2,
  v25 := Tryz.zeroValue2,
  t32 := Tryz.underlying205,
  a32 := Tryz.isAgg205,
  z32 := Tryz.sizeOf205,
  v32 := Tryz.zeroValue205,
  t35 := Tryz.underlying220,
  a35 := Tryz.isAgg220,
  z35 := Tryz.sizeOf220,
  v35 := Tryz.zeroValue220,
  t36 := Tryz.underlying221,
  a36 := Tryz.isAgg221,
  z36 := Tryz.sizeOf221,
  v36 := Tryz.zeroValue221,
  t41 := Tryz.underlying137,
  a41 := Tryz.isAgg137,
  z41 := Tryz.sizeOf137,
  v41 := Tryz.zeroValue137,
  t44 := Tryz.underlying228,
  a44 := Tryz.isAgg228,
  z44 := Tryz.sizeOf228,
  v44 := Tryz.zeroValue228,
  t46 := Tryz.underlying230,
  a46 := Tryz.isAgg230,
  z46 := Tryz.sizeOf230,
  v46 := Tryz.zeroValue230,
  t53 := Tryz.underlying252,
  a53 := Tryz.isAgg252,
  z53 := Tryz.sizeOf252,
  v53 := Tryz.zeroValue252,
  t57 := Tryz.underlying256,
  a57 := Tryz.isAgg256,
  z57 := Tryz.sizeOf256,
  v57 := Tryz.zeroValue256,
  t63 := Tryz.underlying267,
  a63 := Tryz.isAgg267,
  z63 := Tryz.sizeOf267,
  v63 := Tryz.zeroValue267,
  t64 := Tryz.underlying63,
  a64 := Tryz.isAgg63,
  z64 := Tryz.sizeOf63,
  v64 := Tryz.zeroValue63 }
def delA_ren : Go.Shelf.Ren := ⟨fun | 5 => 54 | n => n, fun | 23 => 101 | 26 => 2 | 24 => 3 | 27 => 103 | 0 => 0 | 4 => 4 | n => n, fun | n => n⟩
theorem delA : SlLaysDf.n5 Tryz.prog delA_ren := {
  mixed := by kernel_rfl,
  f5 := ⟨Tryz.f54.name, by decide, Tryz.func54.trans (congrArg some (by kernel_rfl))⟩,
  t0 := Tryz.underlying0,
  a0 := Tryz.isAgg0,
  z0 := Tryz.sizeOf0,
  v0 := Tryz.zeroValue0,
  t4 := Tryz.underlying4,
  a4 := Tryz.isAgg4,
  z4 := Tryz.sizeOf4,
  v4 := Tryz.zeroValue4,
  t23 := Tryz.underlying101,
  a23 := Tryz.isAgg101,
  z23 := Tryz.sizeOf101,
  v23 := Tryz.zeroValue101,
  a24 := Tryz.isAgg3,
  z24 := Tryz.sizeOf3,
  a26 := Tryz.isAgg2,
  z26 := Tryz.sizeOf2,
  t27 := Tryz.underlying103,
  a27 := Tryz.isAgg103,
  z27 := Tryz.sizeOf103,
  v27 := Tryz.zeroValue103 }
theorem sortsA (m : Nat) : AnyZI.SortsIn Tryz.prog sortedA_ren Fence.wide m :=
  ⟨fun blk off cap ss W hH hblk hsz => callsIn_wide.2 (AnyM.slices_Sort_int sortA blk off cap ss W hH hblk hsz), fun p cap W => callsIn_wide.2 (AnyM.slices_Sort_int_none sortA p cap W)⟩
theorem mapsKeys (b : Nat) (w : World) : Calls Tryz.prog 57 #[.map (some b)] w fun e w' => e = .returned (.func (.func 106) #[] #[.pointer (some ⟨w.heap.size, 0, none⟩)]) ∧ w' = w.alloc (.cells #[.map (some b)] 101) :=
  callsIn_wide.1 (AnyZI.keys_in keysA Fence.wide 5 trivial rfl (some b) w)
theorem ownsRow_ids {w : World} {base : Nat} {v : Value} {ss : List Int} {n : Nat} (hn : n = ss.length) (h : w.ownsRow base 2 1 v n (ss.map encZ)) : IdsR (fun x => base ≤ x) w v ss := by
  subst hn
  have key : ∃ ob, OwnS w 2 1 v ss.length (ss.map (Value.int .i64 ·)) ob ∧ ∀ g, ob = some g → base ≤ g := by
    rcases h.2 with ⟨rfl, h0⟩ | ⟨g, cap, cur, rfl, hb, hg, h1, h2, h3, h4⟩
    · exact ⟨none, ⟨h.1, .inl ⟨none, rfl, h0, rfl, by simp⟩⟩, by simp⟩
    · exact ⟨some g, ⟨h.1, .inr ⟨g, cap, cur, rfl, rfl, hg, h1, h2, h3, h4⟩⟩, fun x hx => by cases hx; exact hb⟩
  obtain ⟨ob, h1, h2⟩ := key
  have h3 : OwnL w 2 1 (fun n r => r = [Value.int .i64 n]) v ss ob := ⟨ss.map (fun n => [.int .i64 n]), by simp, fun k x r hx hr => by
    rw [List.getElem?_map, hx] at hr
    simp only [Option.map_some, Option.some.injEq] at hr
    subst hr
    exact ⟨rfl, rfl⟩, by
    have e : (ss.map fun n => [Value.int .i64 n]).flatten = ss.map (.int .i64 ·) := by
      clear h1 h2 h
      induction ss with
      | nil => rfl
      | cons a t ih => simp [ih]
    rw [e]; exact h1⟩
  exact h3.toSl h2
set_option maxRecDepth 100000 in
set_option maxHeartbeats 2000000 in
theorem slicesSorted (b n : Nat) (f : Int → Option Value) (w : World) (h : MapI w b f n) (hn : n ≤ 4096) (hw : ∀ x, f x ≠ none → (Lit.int .i64 x).wf = true) :
    Calls Tryz.prog 56 #[.func (.func 106) #[] #[.pointer (some ⟨w.heap.size, 0, none⟩)]] (w.alloc (.cells #[.map (some b)] 101)) fun e w' => ∃ v L, e = .returned v ∧ RSet L (fun y => f y ≠ none) ∧ IdsR (fun x => w.heap.size ≤ x) w' v L ∧ Grow w w' := by
  have hmx : n ≤ maxLen := by unfold maxLen; omega
  obtain ⟨D0, hown, hsz, hk⟩ := h.owns (P := Tryz.prog) (k := 2) Tryz.underlying2 hmx hw
  have hseq : SeqGives Fence.wide 2 Tryz.prog 106 #[.pointer (some ⟨w.heap.size, 0, none⟩)] encZ (fun ss => ss.Perm (intKeys D0)) (Maps.size D0) (w.alloc (.cells #[.map (some b)] 101)) :=
    AnyZI.keys_gives (ρ := keysA_ren) { keysA with } Fence.wide _ trivial rfl (by omega) w.heap.size b n D0 _ (by simp) (by simp) (hown.alloc _)
  have cS := AnyZI.sorted_in sortedA Fence.wide 5 trivial trivial trivial trivial rfl (by omega) (sortsA _) (enters_of Tryz.func105 (by kernel_rfl) rfl) 106 #[.pointer (some ⟨w.heap.size, 0, none⟩)] trivial (enters_of Tryz.func106 (by kernel_rfl) rfl) _ _ (Nat.le_trans hsz hmx) (by omega) _ hseq
  refine (callsIn_wide.1 cS).mono ?_
  rintro e w' ⟨v, ss, rfl, hS, hrow, -, hb⟩
  obtain ⟨h1, h2⟩ := hk ss hS
  refine ⟨v, _, rfl, rset_sorted h1 h2, (ownsRow_ids (by simp) hrow).sub (fun x hx => by simp at hx; omega) (fun _ _ _ h => h), ?_⟩
  exact ((Grow.rfl' w).allocd _).step hb

end Go.Hg

namespace Go.Hg
open Go.RowKit Go.Proofs

def sA : ByteArray := ⟨#[97]⟩
def wo2 : POp := ⟨3, 0, sRoad, 1, 1, ByteArray.empty, ⟨0, 0, ByteArray.empty⟩, false⟩
end Go.Hg

namespace Go.Hg
open Go.RowKit Go.Proofs

theorem nameOk_ne {s : ByteArray} (h : NameOk s) : ByteArray.empty ≠ s := by
  rintro rfl
  revert h
  decide
theorem formR_ends {r : PRule} (h : formR r = true) (k3 : r.kind = 3) : NameOk r.from_ ∧ NameOk r.to_ := by
  unfold formR at h
  rw [Bool.and_eq_true, if_neg (by omega), if_pos k3] at h
  simp only [Bool.and_eq_true, decide_eq_true_eq] at h
  exact ⟨h.2.1, h.2.2.1⟩
theorem isT_getD {N : List PNode} {id : Int} {t : ByteArray} (h : NameOk t) : decide ((typeN N id).getD ByteArray.empty = t) = isT N id t := by
  unfold isT
  cases typeN N id with
  | none => simp [nameOk_ne h]
  | some u => simp

set_option maxRecDepth 100000 in
set_option maxHeartbeats 4000000 in
theorem brokenEnds (gv : Value) (N : List PNode) (E : List PEdge) (r : PRule) (w : World) (hg : GAt gv N E w) (hgn : GNode gv N w) (hb : E.length ≤ 1099511627776) (hf : formR r = true) (hk : r.kind = 3) :
    Calls Tryz.prog 16 #[gv, r.args] w (BrokPost N E r w) := by
  have HF := Lib.hid hf; have HK := Lib.hid hk; have HGA := Lib.hid hg; have HBD := Lib.hid hb; have HGN := Lib.hid hgn
  have HW := Lib.hid (show ∀ o1, Grow w (w.alloc o1) from fun o1 => (Grow.rfl' w).allocd o1)
  have HNM := Lib.hid (formR_ends hf hk)
  clear hf hk hg hb hgn
  go_enter Tryz.func16, Tryz.ntmps16
  go_wp2_with fail
  refine (ruleForm r _).mono ?_
  rintro e w2 ⟨rfl, g2⟩
  have HG2 := Lib.hid ((HW.out _).step g2)
  have HRB := Lib.hid (ruleBoxNew w r w2 g2)
  obtain ⟨hrl, c1, c2, c3, c4, c5, c6, c7, c0⟩ := HRB.out.cells
  rw [HF.out]
  rw [HK.out] at c1
  clear g2
  go_wp2_with fail
  refine (HGA.out _ HG2.out).2.mono ?_
  rintro e w3 ⟨v3, rfl, hn3, hg3⟩
  obtain ⟨ab, cb, rfl, hbl, hbc, hB⟩ := SlR.open hn3
  unfold maxLen at hbc
  have HB := Lib.hid hB
  have HR3 := Lib.hid (HRB.out.grow hg3); have HG3 := Lib.hid (HG2.out.step hg3)
  have HI0 := Lib.hid (IdsW.nil w3.heap.size w3)
  clear hn3 hg3 hB hrl c1 c2 c3 c4 c5 c6 c7 c0
  go_wp2
  go_loopg [10, 68] E.length (fun g lv i wr => ∃ j : Nat, j ≤ E.length ∧ g = E.length - j ∧ i = .int .i64 j ∧ IdsW w3.heap.size wr lv (((E.take j).filter (wrongR N r)).map (·.id)) ∧ Grow w3 wr)
  case atStart => exact ⟨0, by omega, by omega, rfl, HI0.out, Grow.rfl' w3⟩
  case round =>
    obtain ⟨j, hj, rfl, rfl, hi, hz⟩ := hrel
    obtain ⟨oa, co, rfl, _, _⟩ := hi.isSlice
    have HI := Lib.hid hi; have HZ := Lib.hid hz
    clear hi
    by_cases hjl : j < E.length
    · obtain ⟨ba, oa', ra, rfl, hSa, hba, hRa, hca⟩ := HB.out j E[j] (List.getElem?_eq_getElem hjl)
      obtain ⟨pva, hba', a0, a1, a2, a3, a4, hpa⟩ := hRa.at hba hz hca
      clear hca hRa hSa hba hz
      have HT := Lib.hid (show E.take (j + 1) = E.take j ++ [E[j]] from List.take_succ_eq_append_getElem hjl)
      have HLE := Lib.hid (show (((E.take j).filter (wrongR N r)).map (·.id)).length ≤ E.length by
        rw [List.length_map]
        exact Nat.le_trans (List.length_filter_le _ _) (by rw [List.length_take]; omega))
      generalize E[j] = x at *
      obtain ⟨_, _, rfl⟩ := hpa.isSlice
      have HWR := Lib.hid (show ∀ o1, Grow wr (wr.alloc o1) from fun o1 => (Grow.rfl' wr).allocd o1)
      have HNB := Lib.hid (show ∀ o1 w', Grow (wr.alloc o1) w' → w'.heap[wr.heap.size]? = some o1 from fun o1 w' hg => by rw [hg.heapEq (by simp)]; exact heap_alloc_new wr _)
      clear hpa
      obtain ⟨ta, hta⟩ : ∃ t, (typeN N x.from_).getD ByteArray.empty = t := ⟨_, rfl⟩
      obtain ⟨tb, htb⟩ : ∃ t, (typeN N x.to_).getD ByteArray.empty = t := ⟨_, rfl⟩
      obtain ⟨bt, hbt⟩ : ∃ b, decide (x.typ = r.typ) = b := ⟨_, rfl⟩
      obtain ⟨bf, hbf⟩ : ∃ b, decide (ta = r.from_) = b := ⟨_, rfl⟩
      obtain ⟨bo, hbo⟩ : ∃ b, decide (tb = r.to_) = b := ⟨_, rfl⟩
      have HV := Lib.hid (show wrongR N r x = (bt && !(bf && bo)) by unfold wrongR; rw [← isT_getD HNM.out.1, ← isT_getD HNM.out.2, hta, htb, hbt, hbf, hbo])
      have HTA := Lib.hid hta; have HTB := Lib.hid htb
      clear hta htb
      generalize hfl : ((E.take j).filter (wrongR N r)).map (·.id) = fl at *
      have HFF := Lib.hid hfl
      clear hfl
      go_wp2_with fail
      refine (HGN.out _ ((HG3.out.step HZ.out).step (HWR.out _)) x.from_).mono ?_
      rintro e w4 ⟨⟨i4, oa4, n4, c4', b4, rfl⟩, hw4⟩
      rw [HTA.out]
      have hnb := HNB.out _ w4 hw4
      have hnl := blk_lt hnb
      have n3 : w4.cell? ⟨wr.heap.size, 3, none⟩ = some (.int .i64 x.to_) := by rw [blk_cell hnb]; rfl
      have HNB4 := Lib.hid hnb
      have HW4 := Lib.hid ((HWR.out _).step hw4)
      have HN4 := Lib.hid (show ∀ o1 w', Grow (w4.alloc o1) w' → w'.heap[w4.heap.size]? = some o1 from fun o1 w' hg => by rw [hg.heapEq (by simp)]; exact heap_alloc_new w4 _)
      have HA4 := Lib.hid (show ∀ o1, Grow w4 (w4.alloc o1) from fun o1 => (Grow.rfl' w4).allocd o1)
      clear hnb hw4 a0 a1 a2 a3 a4 hba'
      go_wp2_with fail
      refine (HGN.out _ (((HG3.out.step HZ.out).step HW4.out).step (HA4.out _)) x.to_).mono ?_
      rintro e w5 ⟨⟨i5, oa5, n5, c5', b5, rfl⟩, hw5⟩
      rw [HTB.out]
      have hz5 : Grow wr w5 := (HW4.out.step (HA4.out _)).step hw5
      have hnb := HN4.out _ w5 hw5
      have m1 : w5.cell? ⟨w4.heap.size, 1, none⟩ = some (.string ta) := by rw [blk_cell hnb]; rfl
      have hml := blk_lt hnb
      have hnb0 := (((HA4.out _).step hw5).heapEq (blk_lt HNB4.out)).trans HNB4.out
      have n1 : w5.cell? ⟨wr.heap.size, 1, none⟩ = some (.string x.typ) := by rw [blk_cell hnb0]; rfl
      have n0 : w5.cell? ⟨wr.heap.size, 0, none⟩ = some (.int .i64 x.id) := by rw [blk_cell hnb0]; rfl
      have hnl5 := blk_lt hnb0
      have HZ5 := Lib.hid (HZ.out.step hz5)
      have HI5 := Lib.hid (HI.out.grow hz5)
      obtain ⟨hrl, c1, c2, c3, c4, c5, c6, c7, c0⟩ := ((HR3.out.grow HZ.out).grow hz5).cells
      clear c1 c3 c6 c7 c0 hnb hnb0 hw5 hz5 n3 hnl
      have HE1 := Lib.hid (show ∀ o1, Grow w3 (w5.alloc o1) ∧ IdsW w3.heap.size (w5.alloc o1) (.slice oa fl.length co) fl from fun o1 => ⟨HZ5.out.allocd o1, HI5.out.grow ((Grow.rfl' w5).allocd o1)⟩)
      have HE2 := Lib.hid (show ∀ o1 o2, Grow w3 ((w5.alloc o1).alloc o2) ∧ IdsW w3.heap.size ((w5.alloc o1).alloc o2) (.slice oa fl.length co) fl from fun o1 o2 => ⟨(HZ5.out.allocd o1).allocd o2, HI5.out.grow (((Grow.rfl' w5).allocd o1).allocd o2)⟩)
      have hzs := HZ5.out.size
      by_cases h2 : wrongR N r x = true
      · have HD := Lib.hid (show ((E.take (j + 1)).filter (wrongR N r)).map (·.id) = fl ++ [x.id] by
          rw [HT.out, List.filter_append, ← HFF.out]
          simp [h2])
        have h3 := HV.out.symm.trans h2
        clear h2
        cases bt
        · cases h3
        · cases bf
          · clear h3
            go_wp2_with (at_builtin; go_must (refine wpList_append_I rfl (.tmp 105) (.tmp 108) 32 rfl Tryz.underlying32 w3.heap.size _ fl rfl (HE2.out _ _).2 x.id _ rfl (rd1 _ _ _ (by simp)) (by simp; omega) (by have := HLE.out; have := HBD.out; omega) ?_))
            intro v5 w6 k1 k2 k3
            have H5 := Lib.hid k1; have HG5 := Lib.hid ((HE2.out _ _).1.since k2 (Nat.le_refl _))
            clear k1 k2 k3
            go_wp2
            go_roundg (E.length - (j + 1))
            case measure => omega
            case rel => exact ⟨j + 1, by omega, rfl, by go_num, by rw [HD.out]; exact H5.out, HG5.out⟩
          · cases bo
            · clear h3
              go_wp2_with (at_builtin; go_must (refine wpList_append_I rfl (.tmp 105) (.tmp 108) 32 rfl Tryz.underlying32 w3.heap.size _ fl rfl (HE2.out _ _).2 x.id _ rfl (rd1 _ _ _ (by simp)) (by simp; omega) (by have := HLE.out; have := HBD.out; omega) ?_))
              intro v5 w6 k1 k2 k3
              have H5 := Lib.hid k1; have HG5 := Lib.hid ((HE2.out _ _).1.since k2 (Nat.le_refl _))
              clear k1 k2 k3
              go_wp2
              go_roundg (E.length - (j + 1))
              case measure => omega
              case rel => exact ⟨j + 1, by omega, rfl, by go_num, by rw [HD.out]; exact H5.out, HG5.out⟩
            · cases h3
      · have HD := Lib.hid (show ((E.take (j + 1)).filter (wrongR N r)).map (·.id) = fl by
          rw [HT.out, List.filter_append, ← HFF.out]
          simp [h2])
        have h3 : (bt && !(bf && bo)) = false := by rw [← HV.out]; simpa using h2
        clear h2
        cases bt
        · clear h3
          go_wp2
          go_roundg (E.length - (j + 1))
          case measure => omega
          case rel => exact ⟨j + 1, by omega, rfl, by go_num, by rw [HD.out]; exact (HE1.out _).2, (HE1.out _).1⟩
        · cases bf
          · cases h3
          · cases bo
            · cases h3
            · clear h3
              go_wp2
              go_roundg (E.length - (j + 1))
              case measure => omega
              case rel => exact ⟨j + 1, by omega, rfl, by go_num, by rw [HD.out]; exact (HE1.out _).2, (HE1.out _).1⟩
    · have hkk : E.take j = E := List.take_of_length_le (by omega)
      rw [hkk] at HI
      simp only [hkk]
      have HR := Lib.hid (BrokPost.of (N := N) (E := E) (r := r) ⟨fun h => absurd h (by rw [HF.out]; simp), fun _ => by unfold BrkR; rw [if_neg (by have := HK.out; omega), if_neg (by have := HK.out; omega), if_pos HK.out]⟩ HI.out.toR HG3.out HZ.out)
      clear hkk
      go_wp2
      go_ret
      exact HR.out
end Go.Hg
