/- law21.CheckBreaks: returns true; Arguments: rules, catalogs (the rules' Ids are numbers of 64 bits), spots; law20.DirtyKeeps: true; the loop of changes. Conditions: those that each theorem names. -/
import Derived.WalkKit
import Derived.WalkSpells
import Derived.WalkLawsBesides
import Derived.Lib.Hide
import Derived.BigQuiet
import Derived.Deep.LoopGhost
import Derived.Test.YtanijffgogpmdaaGreatRows
import Derived.Lib.SliceRun
import Derived.WideMake
import Derived.Deep.RegionLaw
import Derived.Lib.Overlaps
import Derived.Deep.RegionHeld3
import Derived.Laws.ResultCell
import Derived.Laws.EntriesVeiled
import Derived.Maps.OwnOps
import Derived.Maps.OwnSet
import Derived.Carry
import Derived.Lib.SlKeysI
import Derived.Maps.RangeWalk
import Derived.Lib.SlMapFilter
import Derived.Deep.DeepCutAuto
import Derived.Shelf.SlIterI.Nil
import Derived.Shelf.SortM.Plain
import Derived.Shelf.SortM.SortNone
import Derived.Shelf.SlMaps.DeleteFunc
import Derived.Shelf.SlSortCmp.WholeK
import Derived.Shelf.SlIterI.Collect
import Derived.RangeFuncBox
import Derived.RangeFuncLeaves
import Derived.RangeFuncWrites
import Derived.Maps.AppendAt
import Derived.Deep.CutBlock
import Derived.BigRegion
import Derived.RowKit
import Derived.ReadAgain
import Derived.ChangeOld
import Derived.Deep.Slices
import Derived.OpenShut
import Derived.Test.YtanijffgogpmdaaGreatDirN
import Derived.Test.YtanijffgogpmdaaGreatDirO
import Derived.Test.YtanijffgogpmdaaGreatDirQ
import Derived.Test.YtanijffgogpmdaaGreatDirR
import Derived.Test.YtanijffgogpmdaaGreatDirU
import Derived.Test.YtanijffgogpmdaaGreatDirV
import Derived.Test.YtanijffgogpmdaaGreatDirW
import Derived.Test.YtanijffgogpmdaaGreatDirX
import Derived.Test.YtanijffgogpmdaaGreatDirAe
import Derived.Test.YtanijffgogpmdaaGreatDirAg
namespace Go.Hg
open Go.RowKit Go.Proofs

abbrev RuleC (w : World) (b : Nat) (r : PRule) : Prop := w.cell? ⟨b, 0, none⟩ = some (.int .i64 r.id) ∧ w.cell? ⟨b, 1, none⟩ = some (.int .i64 r.kind) ∧ w.cell? ⟨b, 2, none⟩ = some (.string r.typ) ∧ w.cell? ⟨b, 3, none⟩ = some (.string r.name) ∧ w.cell? ⟨b, 4, none⟩ = some (.string r.from_) ∧ w.cell? ⟨b, 5, none⟩ = some (.string r.to_) ∧ w.cell? ⟨b, 6, none⟩ = some (.int .i64 r.n) ∧ w.cell? ⟨b, 7, none⟩ = some (.int .i64 r.state)
theorem RuleBox.toC {w : World} {b : Nat} {r : PRule} (h : RuleBox w b r) : RuleC w b r := by
  obtain ⟨_, c1, c2, c3, c4, c5, c6, c7, c0⟩ := h.cells
  exact ⟨c0, c1, c2, c3, c4, c5, c6, c7⟩
end Go.Hg

namespace Go.Hg
open Go.RowKit Go.ChangeShapes Go.WideShapes Go.Deep Go.Proofs
variable {H : Type} {enc : TypeId × Value → H} {W : World} {base : Nat} {sp : Nat → Bool} {held : Bool}

set_option maxRecDepth 100000 in
theorem openRule1 {v : Value} {d : DataW H} {ps : List MemPlace} {r : Reach} {b0 : Nat} (hval : Value.okWide Tryz.prog W r b0 24 v) (h : DataW.Trod enc Tryz.prog W base sp held 24 v d ps) : ∃ o : PRule, WfId o ∧ v = o.args := by
  obtain ⟨cs, rfl, -⟩ := okWide_struct Tryz.underlying24 hval
  obtain ⟨n, hn⟩ := h
  obtain ⟨o, ho, hw⟩ := openRuleW hn
  refine ⟨o, hw, ?_⟩
  have e : cs.toList = o.cells := ho
  have e2 : cs = o.cells.toArray := by rw [← e]
  rw [e2]
end Go.Hg

namespace Go.Hg
open Go.RowKit Go.Proofs

set_option maxRecDepth 100000 in
set_option maxHeartbeats 16000000 in
theorem law20Keeps (T1 T2 : Nat → Prop) (v1 v2 : Value) (l1 l2 : List POp) (r : PRule) (w : World) (hl1 : OpsR T1 w v1 l1) (hl2 : OpsR T2 w v2 l2) (hwf : (Lit.int .i64 r.id).wf = true) :
    Calls Tryz.prog 7 #[v1, v2, r.args] w fun e w' => e = .returned (.bool true) ∧ Grow w w' := by
  have HL1 := Lib.hid hl1; have HL2 := Lib.hid hl2
  obtain ⟨_, _, rfl, -, -, -⟩ := SlR.open hl1
  obtain ⟨aL, cL, rfl, hLc, hLm, hA2⟩ := SlR.open hl2
  unfold maxLen at hLm
  have HA2 := Lib.hid hA2
  have HW0 := Lib.hid (show ∀ o1, Grow w (w.alloc o1) from fun o1 => (Grow.rfl' w).allocd o1)
  have HRN := Lib.hid (fun w' => ruleBoxNew w r w')
  obtain ⟨r2, hr2⟩ : ∃ r2 : PRule, r2 = ⟨r.id, r.kind, r.typ, r.name, r.from_, r.to_, r.n, 2⟩ := ⟨_, rfl⟩
  have HR2e := Lib.hid hr2
  have HWF2 := Lib.hid (show ∀ x ∈ [r2], (Lit.int .i64 x.id).wf = true by
    intro x hx
    rw [List.mem_singleton] at hx
    subst hx; subst hr2
    exact hwf)
  clear hl1 hl2 hwf hA2 hr2
  go_enter Tryz.func7, Tryz.ntmps7
  go_wp2_with fail
  refine (lawMade T1 _ l1 _ (HL1.out.growS (HW0.out _))).mono ?_
  intro e w2 h2
  rcases h2 with ⟨-, rfl, g2⟩ | ⟨-, B1, B2, rfl, hpr⟩
  · have HG2 := Lib.hid (Grow.step (HW0.out _) g2)
    clear g2
    go_wp2_with fail
    refine (law20Wakes w2).mono ?_
    rintro e w3 ⟨rfl, gz⟩
    have HGZ := Lib.hid (HG2.out.step gz)
    clear gz
    go_wp2
    go_ret
    exact ⟨rfl, HGZ.out⟩
  have hmo := madeOk l1
  generalize madeG l1 = G at *
  have HMO := Lib.hid hmo
  obtain ⟨S1, S2, hok1, hok2, -, hs1, hs2, g2⟩ := hpr
  have HOK1 := Lib.hid hok1; have HOK2 := Lib.hid hok2
  have HG2 := Lib.hid (Grow.step (HW0.out _) g2)
  have HSB := Lib.hid (show ∀ b, S1 b → w.heap.size + 1 ≤ b from fun b hb => by have := (hs1 b hb).1; simpa using this)
  have HSB2 := Lib.hid (show ∀ b, S2 b → w.heap.size + 1 ≤ b from fun b hb => by have := (hs2 b hb).1; simpa using this)
  have HR2 := Lib.hid (HRN.out w2 g2)
  clear hmo hok1 hok2 hs1 hs2 g2
  go_wp2_with fail
  refine (lawFair _ _ l2 w2 (HL2.out.growS HG2.out)).mono ?_
  rintro e w3 ⟨rfl, g3⟩
  have HG23 := Lib.hid g3; have HG3 := Lib.hid (HG2.out.step g3)
  clear g3
  cases hf : fairOps l2
  · clear hf
    go_wp2_with fail
    refine (law20Wakes w3).mono ?_
    rintro e w4 ⟨rfl, gz⟩
    have HGZ := Lib.hid (HG3.out.step gz)
    clear gz
    go_wp2
    go_ret
    exact ⟨rfl, HGZ.out⟩
  clear hf
  by_cases h60 : 60 < l2.length
  · have hb60 : decide ((60 : Int) < (l2.length : Int)) = true := by simp; omega
    clear h60
    go_wp2_with fail
    refine (law20Wakes w3).mono ?_
    rintro e w4 ⟨rfl, gz⟩
    have HGZ := Lib.hid (HG3.out.step gz)
    clear gz
    go_wp2
    go_ret
    exact ⟨rfl, HGZ.out⟩
  have hb60 : decide ((60 : Int) < (l2.length : Int)) = false := by simp; omega
  have HLEN := Lib.hid (show l2.length ≤ 60 by omega)
  clear h60
  have HR3 := Lib.hid (HR2.out.grow HG23.out)
  obtain ⟨hrl, c1, c2, c3, c4, c5, c6, c7, c0⟩ := HR3.out.cells
  go_wp2_with fail
  refine (keepLargeRule r w3).mono ?_
  rintro e w4 ⟨bl, rfl, g4⟩
  have HG4 := Lib.hid (HG3.out.step g4); have HG24 := Lib.hid (HG23.out.step g4)
  have HR4 := Lib.hid (HR3.out.grow g4)
  clear g4 hrl c1 c2 c3 c4 c5 c6 c7 c0
  cases bl
  rotate_left 1
  · go_wp2_with fail
    refine (law20Wakes w4).mono ?_
    rintro e w5 ⟨rfl, gz⟩
    have HGZ := Lib.hid (HG4.out.step gz)
    clear gz
    go_wp2
    go_ret
    exact ⟨rfl, HGZ.out⟩
  obtain ⟨hrl, c1, c2, c3, c4, c5, c6, c7, c0⟩ := HR4.out.cells
  have hfr := blk_free HR4.out 7
  obtain ⟨W5, hW5⟩ : ∃ W5, w4.setCell ⟨w.heap.size, 7, none⟩ (.int .i64 2) = W5 := ⟨_, rfl⟩
  have HR5 := Lib.hid (show RuleBox W5 w.heap.size r2 by
    unfold RuleBox
    rw [← hW5, heap_setCell_same w4 w.heap.size 7 _ _ _ HR4.out, HR2e.out]
    rfl)
  have HM5 := Lib.hid (show Mod (fun b => b = w.heap.size) w4 W5 from hW5 ▸ (Mod.rfl' (fun b => b = w.heap.size) w4).setd (p := ⟨w.heap.size, 7, none⟩) (.inl rfl) _)
  have HG5 := Lib.hid (show Grow w W5 from HG4.out.modd HM5.out (fun b hb => by omega))
  have HOK1' := Lib.hid ((HOK1.out.grow HG24.out).keep HM5.out (fun b hb e => by have := HSB.out b hb; omega))
  have HOK2' := Lib.hid ((HOK2.out.grow HG24.out).keep HM5.out (fun b hb e => by have := HSB2.out b hb; omega))
  have HW5e := Lib.hid hW5
  have HA5 := Lib.hid (show ∀ o1, Grow w (W5.alloc o1) ∧ Grow W5 (W5.alloc o1) from fun o1 => ⟨HG5.out.allocd o1, (Grow.rfl' W5).allocd o1⟩)
  clear hW5
  go_wp2_with (at_builtin; go_must (rw [HW5e.out]; refine wpList_append_L rfl (.tmp 38) (.tmp 39) 22 rfl rowOp Tryz.underlying22 W5.heap.size _ rfl _ rfl l2 (HL2.out.growS (HA5.out _).1) ropOk (by simp) (by have := HLEN.out; unfold maxLen; omega) (by have := HLEN.out; omega) ?_))
  intro v6 w6 hown6 g6
  obtain ⟨_, _, rfl, -, -⟩ := hown6.isSlice
  have HIN := Lib.hid hown6.toR
  have HG6 := Lib.hid ((HA5.out _).1.step g6); have HG56 := Lib.hid ((HA5.out _).2.step g6)
  clear hown6 g6 hrl c1 c2 c3 c4 c5 c6 c7 c0 hfr HW5e
  go_wp2_with fail
  refine (dirtySpots S1 _ B1 G _ l2 w6 (HOK1'.out.grow HG56.out) HMO.out.1 HIN.out HLEN.out (by have := HMO.out.2.2.2; omega)).mono ?_
  rintro e W7 ⟨v7, L, rfl, hS7, hv7, g7⟩
  have HSL := Lib.hid hS7; have HV := Lib.hid hv7
  have HG7 := Lib.hid (HG6.out.step g7); have HG57 := Lib.hid (HG56.out.step g7)
  obtain ⟨_, _, rfl, -, -, -⟩ := SlR.open hv7
  have HR7 := Lib.hid (HR5.out.grow HG57.out)
  have HSR := Lib.hid (show ∀ w', Grow W7 w' → RuleC w' w.heap.size r2 from fun w' g => (HR7.out.grow g).toC)
  have HD7 := Lib.hid (show Grow W7 W7.drew from (Grow.rfl' W7).drewd)
  have HTOLD := Lib.hid (show RSet (if touchR L r2 = true then [r2.id] else []) (· ∈ toldR L [r2]) by
    have h2 : r2.state = 2 := by rw [HR2e.out]
    unfold toldR
    by_cases ht : touchR L r2 = true
    · rw [if_pos ht]
      simp only [List.filter_cons, h2, ht, decide_true, Bool.and_self, if_true, List.filter_nil, List.map_cons, List.map_nil]
      exact ⟨by simp, fun _ => Iff.rfl⟩
    · rw [if_neg ht]
      simp only [List.filter_cons, h2, ht, decide_true, Bool.and_false, if_false, List.filter_nil, List.map_nil, Bool.false_eq_true]
      exact ⟨by simp, fun _ => Iff.rfl⟩)
  clear hS7 hv7 g7
  cases htc : touchR L r2
  rotate_left 1
  · rw [htc, if_pos rfl] at HTOLD
    clear htc
    go_wp2_with fail
    refine wp_region_noPanic ?_
    refine wp_region_held_drew (S := fun w' => RuleC w' w.heap.size r2) (by kernel_rfl) ?_ (fun hHeld => ?_)
    · exact HSR.out _ HD7.out
    refine' wpAnyH_take (i := 0) (oi := ?o1) (v := _) (by simp only [List.getElem?_toArray, List.getElem?_cons_zero]; rfl) (by kernel_rfl) (by kernel_rfl) (by kernel_rfl) (fun _ _ _ h => h) (Or.inl ⟨by rfl, ?y1⟩) (by assumption) ?r1
    case y1 =>
      intro wS hSw
      try dsimp only at hSw
      go_simp
      all_goals with_reducible rfl
    simp only [Act.put, List.setIfInBounds_toArray, List.set_cons_zero, List.set_cons_succ]
    refine' wpAnyH_take (i := 3) (oi := ?o2) (v := _) (by simp only [List.getElem?_toArray, List.getElem?_cons_succ, List.getElem?_cons_zero]; rfl) (by kernel_rfl) (by kernel_rfl) (by kernel_rfl) (fun _ _ _ h => h) (Or.inl ⟨by rfl, ?y2⟩) (by assumption) ?r2
    case y2 =>
      intro wS hSw
      try dsimp only at hSw
      go_simp
      all_goals with_reducible rfl
    simp only [Act.put, List.setIfInBounds_toArray, List.set_cons_zero, List.set_cons_succ]
    refine wpAnyH_ready (rs := [1]) (by kernel_rfl) (by simp) ?_
    refine' AllReadyH.cons (o := ?o3) (by simp only [List.getElem?_toArray, List.getElem?_cons_succ, List.getElem?_cons_zero]; rfl) (fun K hK => ?s3) ?m3
    case m3 => exact AllReadyH.nil
    go_simp
    refine hK.out _ _ ?_ (fun hHeld => ?_)
    · exact HSR.out _ (HD7.out.allocd _)
    clear hK K
    try simp only [Act.put, List.setIfInBounds_toArray, List.set_cons_zero, List.set_cons_succ]
    refine' wpAnyH_take (i := 2) (oi := ?o4) (v := _) (by simp only [List.getElem?_toArray, List.getElem?_cons_succ, List.getElem?_cons_zero]; rfl) (by kernel_rfl) (by kernel_rfl) (by kernel_rfl) (fun _ _ _ h => h) (Or.inl ⟨by rfl, ?y4⟩) (by assumption) ?r4
    case y4 =>
      intro wS hSw
      try dsimp only at hSw
      go_simp
      all_goals with_reducible rfl
    simp only [Act.put, List.setIfInBounds_toArray, List.set_cons_zero, List.set_cons_succ]
    refine wpAnyH_ready (rs := [4]) (by kernel_rfl) (by simp) ?_
    refine' AllReadyH.cons (o := ?o5) (by simp only [List.getElem?_toArray, List.getElem?_cons_succ, List.getElem?_cons_zero]; rfl) (fun K hK => ?s5) ?m5
    case m5 => exact AllReadyH.nil
    go_simp
    go_at_call 39
    refine (dirtyConcerned _ _ _ _ _ _ _ _ [r2] L _ (rule1 W7.drew r2 rfl) (HV.out.grow (HD7.out.allocd _)) (by simp) HWF2.out ⟨⟨_, _, _, rfl⟩, ⟨_, _, _, rfl⟩, ⟨_, _, _, rfl⟩, ⟨_, rfl⟩⟩).mono ?_
    rintro e w8 ⟨v8, L8, rfl, hS8, hv8, g8⟩
    have HG8 := Lib.hid ((HD7.out.allocd _).step g8)
    obtain rfl := hS8.uniq HTOLD.out (fun _ => Iff.rfl)
    obtain ⟨_, _, rfl, -, -, -⟩ := SlR.open hv8
    clear hS8 hv8 g8
    refine hK.out _ _ ?_ (fun hHeld => ?_)
    · exact HSR.out _ HG8.out
    clear hK K
    try simp only [Act.put, List.setIfInBounds_toArray, List.set_cons_zero, List.set_cons_succ]
    refine' wpAnyH_take (i := 5) (oi := ?o6) (v := _) (by simp only [List.getElem?_toArray, List.getElem?_cons_succ, List.getElem?_cons_zero]; rfl) (by kernel_rfl) (by kernel_rfl) (by kernel_rfl) (fun _ _ _ h => h) (Or.inl ⟨by rfl, ?y6⟩) (by assumption) ?r6
    case y6 =>
      intro wS hSw
      try dsimp only at hSw
      go_simp
      all_goals with_reducible rfl
    simp only [Act.put, List.setIfInBounds_toArray, List.set_cons_zero, List.set_cons_succ]
    refine' wpAnyH_take (i := 6) (oi := ?o7) (v := _) (by simp only [List.getElem?_toArray, List.getElem?_cons_succ, List.getElem?_cons_zero]; rfl) (by kernel_rfl) (by kernel_rfl) (by kernel_rfl) (fun _ _ _ h => h) (Or.inl ⟨by rfl, ?y7⟩) (by assumption) ?r7
    case y7 =>
      intro wS hSw
      try dsimp only at hSw
      go_simp
      all_goals with_reducible rfl
    simp only [Act.put, List.setIfInBounds_toArray, List.set_cons_zero, List.set_cons_succ]
    refine' wpAnyH_take (i := 7) (oi := ?o8) (v := _) (by simp only [List.getElem?_toArray, List.getElem?_cons_succ, List.getElem?_cons_zero]; rfl) (by kernel_rfl) (by kernel_rfl) (by kernel_rfl) (fun _ _ _ h => h) (Or.inl ⟨by rfl, ?y8⟩) (by assumption) ?r8
    case y8 =>
      intro wS hSw
      try dsimp only at hSw
      go_simp
      all_goals with_reducible rfl
    simp only [Act.put, List.setIfInBounds_toArray, List.set_cons_zero, List.set_cons_succ]
    refine wpAnyH_take (i := 8) (v := undef) (by simp only [List.getElem?_toArray, List.getElem?_cons_succ, List.getElem?_cons_zero]; rfl) (by kernel_rfl) (by kernel_rfl) (by kernel_rfl) (fun _ _ _ h => h) (Or.inr ⟨by rfl, rfl⟩) (by assumption) ?_
    simp only [Act.put, List.setIfInBounds_toArray, List.set_cons_zero, List.set_cons_succ]
    refine wpAnyH_take (i := 9) (v := undef) (by simp only [List.getElem?_toArray, List.getElem?_cons_succ, List.getElem?_cons_zero]; rfl) (by kernel_rfl) (by kernel_rfl) (by kernel_rfl) (fun _ _ _ h => h) (Or.inr ⟨by rfl, rfl⟩) (by assumption) ?_
    simp only [Act.put, List.setIfInBounds_toArray, List.set_cons_zero, List.set_cons_succ]
    refine wpAnyH_take (i := 10) (v := undef) (by simp only [List.getElem?_toArray, List.getElem?_cons_succ, List.getElem?_cons_zero]; rfl) (by kernel_rfl) (by kernel_rfl) (by kernel_rfl) (fun _ _ _ h => h) (Or.inr ⟨by rfl, rfl⟩) (by assumption) ?_
    simp only [Act.put, List.setIfInBounds_toArray, List.set_cons_zero, List.set_cons_succ]
    refine wpAnyH_take (i := 11) (v := undef) (by simp only [List.getElem?_toArray, List.getElem?_cons_succ, List.getElem?_cons_zero]; rfl) (by kernel_rfl) (by kernel_rfl) (by kernel_rfl) (fun _ _ _ h => h) (Or.inr ⟨by rfl, rfl⟩) (by assumption) ?_
    simp only [Act.put, List.setIfInBounds_toArray, List.set_cons_zero, List.set_cons_succ]
    refine wpAnyH_take (i := 12) (v := undef) (by simp only [List.getElem?_toArray, List.getElem?_cons_succ, List.getElem?_cons_zero]; rfl) (by kernel_rfl) (by kernel_rfl) (by kernel_rfl) (fun _ _ _ h => h) (Or.inr ⟨by rfl, rfl⟩) (by assumption) ?_
    simp only [Act.put, List.setIfInBounds_toArray, List.set_cons_zero, List.set_cons_succ]
    refine wpAnyH_take (i := 13) (v := undef) (by simp only [List.getElem?_toArray, List.getElem?_cons_succ, List.getElem?_cons_zero]; rfl) (by kernel_rfl) (by kernel_rfl) (by kernel_rfl) (fun _ _ _ h => h) (Or.inr ⟨by rfl, rfl⟩) (by assumption) ?_
    simp only [Act.put, List.setIfInBounds_toArray, List.set_cons_zero, List.set_cons_succ]
    refine wpAnyH_take (i := 14) (v := undef) (by simp only [List.getElem?_toArray, List.getElem?_cons_succ, List.getElem?_cons_zero]; rfl) (by kernel_rfl) (by kernel_rfl) (by kernel_rfl) (fun _ _ _ h => h) (Or.inr ⟨by rfl, rfl⟩) (by assumption) ?_
    simp only [Act.put, List.setIfInBounds_toArray, List.set_cons_zero, List.set_cons_succ]
    refine wpAnyH_take (i := 15) (v := undef) (by simp only [List.getElem?_toArray, List.getElem?_cons_succ, List.getElem?_cons_zero]; rfl) (by kernel_rfl) (by kernel_rfl) (by kernel_rfl) (fun _ _ _ h => h) (Or.inr ⟨by rfl, rfl⟩) (by assumption) ?_
    simp only [Act.put, List.setIfInBounds_toArray, List.set_cons_zero, List.set_cons_succ]
    refine wpAnyH_take (i := 16) (v := undef) (by simp only [List.getElem?_toArray, List.getElem?_cons_succ, List.getElem?_cons_zero]; rfl) (by kernel_rfl) (by kernel_rfl) (by kernel_rfl) (fun _ _ _ h => h) (Or.inr ⟨by rfl, rfl⟩) (by assumption) ?_
    simp only [Act.put, List.setIfInBounds_toArray, List.set_cons_zero, List.set_cons_succ]
    refine wpAnyH_take (i := 17) (v := undef) (by simp only [List.getElem?_toArray, List.getElem?_cons_succ, List.getElem?_cons_zero]; rfl) (by kernel_rfl) (by kernel_rfl) (by kernel_rfl) (fun _ _ _ h => h) (Or.inr ⟨by rfl, rfl⟩) (by assumption) ?_
    simp only [Act.put, List.setIfInBounds_toArray, List.set_cons_zero, List.set_cons_succ]
    refine wpAnyH_take (i := 18) (v := undef) (by simp only [List.getElem?_toArray, List.getElem?_cons_succ, List.getElem?_cons_zero]; rfl) (by kernel_rfl) (by kernel_rfl) (by kernel_rfl) (fun _ _ _ h => h) (Or.inr ⟨by rfl, rfl⟩) (by assumption) ?_
    simp only [Act.put, List.setIfInBounds_toArray, List.set_cons_zero, List.set_cons_succ]
    refine' wpAnyH_take (i := 19) (oi := ?o9) (v := _) (by simp only [List.getElem?_toArray, List.getElem?_cons_succ, List.getElem?_cons_zero]; rfl) (by kernel_rfl) (by kernel_rfl) (by kernel_rfl) (fun _ _ _ h => h) (Or.inl ⟨by rfl, ?y9⟩) (by assumption) ?r9
    case y9 =>
      intro wS hSw
      try dsimp only at hSw
      go_simp
      all_goals with_reducible rfl
    simp only [Act.put, List.setIfInBounds_toArray, List.set_cons_zero, List.set_cons_succ]
    refine wpAnyH_done (by kernel_rfl) ?_ _
    refine NoPanic.normal ?_
    go_wp2_with fail
    refine (law20Wakes w8).mono ?_
    rintro e w9 ⟨rfl, gz⟩
    have HGZ := Lib.hid (HG7.out.step (HG8.out.step gz))
    clear gz
    go_wp2
    go_ret
    exact ⟨rfl, HGZ.out⟩
  have HTC := Lib.hid htc
  rw [htc, if_neg (by simp)] at HTOLD
  clear htc
  obtain ⟨qa, qc, qe, qd, hqB, q0, q1, -, hqn, hqe⟩ := HOK2'.out.rd.read
  have HQN := Lib.hid (hqn.grow HG57.out); have HQE := Lib.hid (hqe.grow HG57.out)
  have HQB := Lib.hid (show G.nodes.length ≤ 1099511627776 ∧ G.edges.length ≤ 1099511627776 by have := HMO.out.1.items; omega)
  have HSQ := Lib.hid (show ∀ w', Grow W7 w' → RuleC w' w.heap.size r2 ∧ w'.cell? ⟨B2, 0, none⟩ = some (.slice qa G.nodes.length qc) ∧ w'.cell? ⟨B2, 1, none⟩ = some (.slice qe G.edges.length qd) from fun w' g => ⟨HSR.out w' g, ((HG57.out.step g).cell (p := ⟨B2, 0, none⟩) hqB).trans q0, ((HG57.out.step g).cell (p := ⟨B2, 1, none⟩) hqB).trans q1⟩)
  obtain ⟨bk, hbk⟩ : ∃ b, keepR G.nodes G.edges r2 = b := ⟨_, rfl⟩
  have HBK := Lib.hid hbk
  clear hbk hqB q0 q1 hqn hqe
  go_wp2_with fail
  go_region_held3 (fun w' => RuleC w' w.heap.size r2 ∧ w'.cell? ⟨B2, 0, none⟩ = some (.slice qa G.nodes.length qc) ∧ w'.cell? ⟨B2, 1, none⟩ = some (.slice qe G.edges.length qd)) (first | exact HSQ.out _ HG9.out | exact HSQ.out _ HG8.out | exact HSQ.out _ (HD7.out.allocd _) | exact HSQ.out _ HD7.out) (first | (go_at_call 39; refine (dirtyConcerned _ _ _ _ _ _ _ _ [r2] L _ (rule1 W7.drew r2 rfl) (HV.out.grow (HD7.out.allocd _)) (by simp) HWF2.out ⟨⟨_, _, _, rfl⟩, ⟨_, _, _, rfl⟩, ⟨_, _, _, rfl⟩, ⟨_, rfl⟩⟩).mono ?_; rintro e w8 ⟨v8, L8, rfl, hS8, hv8, g8⟩; have HG8 := Lib.hid ((HD7.out.allocd _).step g8); obtain rfl := hS8.uniq HTOLD.out (fun _ => Iff.rfl); obtain ⟨_, _, rfl, -, -, -⟩ := SlR.open hv8; clear hS8 hv8 g8) | (go_at_call 24; refine (ref15Keeps S2 _ _ G.nodes G.edges r2 _ (HQN.out.grow HG8.out) (HQE.out.grow HG8.out) HQB.out.1 HQB.out.2).mono ?_; rintro e w9 ⟨rfl, g9⟩; rw [HBK.out]; have HG9 := Lib.hid (HG8.out.step g9); clear g9))
  cases bk
  · go_wp2_with fail
    refine (law20Wakes w9).mono ?_
    rintro e wa ⟨rfl, gz⟩
    have HGZ := Lib.hid (HG7.out.step (HG9.out.step gz))
    clear gz
    go_wp2
    go_ret
    exact ⟨rfl, HGZ.out⟩
  have HKEEP := Lib.hid (show keepR (runG G l2).nodes (runG G l2).edges r2 = true by
    have h := HBK.out
    unfold keepR at h ⊢
    rw [Bool.and_eq_true] at h ⊢
    exact ⟨h.1, hold_run HMO.out.1 h.1 l2 (by rw [← HSL.out.touch r2]; exact HTC.out) h.2⟩)
  obtain ⟨W0, hw0⟩ : ∃ W0, W0 = w9 := ⟨_, rfl⟩
  subst hw0
  have HG0 := Lib.hid (HG7.out.step HG9.out)
  have HR0 := Lib.hid (HR7.out.grow HG9.out)
  have HGPs := Lib.hid (show GraphP (fun b => S1 b ∨ W0.heap.size ≤ b) W0 B1 (runG G (l2.take 0)) from ⟨S1, HOK1'.out.grow (HG57.out.step HG9.out), fun b hb => .inl hb⟩)
  go_wp2
  go_loopg [11] (l2.length) (fun g iv wr => ∃ j : Nat, j ≤ l2.length ∧ g = l2.length - j ∧ iv = .int .i64 j ∧ GraphP (fun b => S1 b ∨ W0.heap.size ≤ b) wr B1 (runG G (l2.take j)) ∧ Mod (fun b => S1 b ∨ W0.heap.size ≤ b) W0 wr)
  case atStart => exact ⟨0, by omega, by omega, rfl, HGPs.out, Mod.rfl' _ _⟩
  case round =>
    obtain ⟨j, hj, rfl, rfl, hgp, hgr⟩ := hrel
    have HGP := Lib.hid hgp; have HMR := Lib.hid hgr
    clear hgp hgr
    by_cases hjl : j < l2.length
    · have hjl2 : j < l2.length := by exact hjl
      obtain ⟨ba, oa, ra, rfl, -, hba, hRa, hca⟩ := HA2.out j l2[j] (List.getElem?_eq_getElem hjl2)
      have HS := Lib.hid (show ∀ w', Mod (fun b => S1 b ∨ W0.heap.size ≤ b) wr w' → OpC w' ba (oa + j * 10) l2[j] from fun w' g => opcMod (opCells hRa hba HG0.out hca).2 (HMR.out.step g) (Nat.lt_of_lt_of_le hba HG0.out.size) (fun h => h.elim (fun h => by have := HSB.out ba h; omega) (fun h => by have := HG0.out.size; omega)))
      have HRN := Lib.hid (show runG G (l2.take (j + 1)) = stepG (catO l2[j]) l2[j] (runG G (l2.take j)) by rw [List.take_succ_eq_append_getElem hjl2, runG_snoc])
      have HIK := Lib.hid (runG_inv HMO.out.1 (l2.take j))
      have HSW := Lib.hid (show W0.heap.size ≤ wr.heap.size from HMR.out.size)
      have hj0 : (0 : Int) ≤ (j : Int) := by omega
      have hj1 : (j : Int) < (l2.length : Int) := by omega
      have c2 := (HS.out wr (Mod.rfl' _ _)).2.2.1
      have hbal := cell_lt c2
      clear hRa hba hca
      generalize l2[j] = o at *
      generalize runG G (l2.take j) = Gj at *
      obtain ⟨wo, hwo⟩ : ∃ wo, wo = wr := ⟨_, rfl⟩
      subst hwo
      go_wp2_with fail
      go_cut [12] (fun cv wx => CatNew wo o.typ cv wx)
      case first =>
        go_region
        all_goals go_wp2_with fail
        all_goals go_meet
        all_goals first
          | exact catNew (three3 wo _ _ _).1 (three3 wo _ _ _).2.1 (three3 wo _ _ _).2.2 (by omega) (by omega) (by omega) (((((Grow.rfl' _).allocd _).allocd _).allocd _).drewd)
          | exact catNew (three3 wo _ _ _).1 (three3 wo _ _ _).2.2 (three3 wo _ _ _).2.1 (by omega) (by omega) (by omega) (((((Grow.rfl' _).allocd _).allocd _).allocd _).drewd)
          | exact catNew (three3 wo _ _ _).2.1 (three3 wo _ _ _).1 (three3 wo _ _ _).2.2 (by omega) (by omega) (by omega) (((((Grow.rfl' _).allocd _).allocd _).allocd _).drewd)
          | exact catNew (three3 wo _ _ _).2.1 (three3 wo _ _ _).2.2 (three3 wo _ _ _).1 (by omega) (by omega) (by omega) (((((Grow.rfl' _).allocd _).allocd _).allocd _).drewd)
          | exact catNew (three3 wo _ _ _).2.2 (three3 wo _ _ _).1 (three3 wo _ _ _).2.1 (by omega) (by omega) (by omega) (((((Grow.rfl' _).allocd _).allocd _).allocd _).drewd)
          | exact catNew (three3 wo _ _ _).2.2 (three3 wo _ _ _).2.1 (three3 wo _ _ _).1 (by omega) (by omega) (by omega) (((((Grow.rfl' _).allocd _).allocd _).allocd _).drewd)
      case rest =>
        obtain ⟨bc, nv, ev, rfl, hbc, hcat, hcr, hgx⟩ := hcut
        obtain ⟨wx, rfl⟩ : ∃ wx, wx = wc := ⟨_, rfl⟩
        obtain ⟨an, cn, rfl, -, -, -⟩ := SlR.open hcr.1
        obtain ⟨ae, ce, rfl, -, -, -⟩ := SlR.open hcr.2.1
        have HCAT := Lib.hid hcat; have HCR := Lib.hid hcr; have HGX := Lib.hid hgx
        have HD := Lib.hid (show Grow wx wx.drew from (Grow.rfl' wx).drewd)
        have HCC := Lib.hid (show ∀ w', Grow wx w' → CatCell w' bc (.slice an 1 cn) (.slice ae 1 ce) (.slice none 0 0) (.slice none 0 0) ⟨[o.typ], [o.typ], [], [], 0⟩ ∧ OpC w' ba (oa + j * 10) o from fun w' g => ⟨catCellAt HCAT.out g, HS.out w' (Mod.of_grow (HGX.out.step g))⟩)
        clear hcat hcr hgx c2 hbal
        go_wp2_with fail
        go_region_held3 (fun w' => CatCell w' bc (.slice an 1 cn) (.slice ae 1 ce) (.slice none 0 0) (.slice none 0 0) ⟨[o.typ], [o.typ], [], [], 0⟩ ∧ OpC w' ba (oa + j * 10) o) (first | exact HKD.out | exact HCC.out _ HD.out) (first | (go_at_call 22; (refine (doP (fun b => S1 b ∨ W0.heap.size ≤ b) _ B1 Gj _ _ _ _ (catO o) o wo _ HGP.out (HGX.out.step HD.out) (fun b hb => .inr (by have := HSW.out; have := (HGX.out.step HD.out).size; omega)) HIK.out (HCR.out.grow HD.out)).mono ?_); rintro e wd ⟨rfl, hgd, hmd⟩; generalize (if mayG (catO o) o Gj = 0 then idG o Gj else 0) = rid; generalize mayG (catO o) o Gj = rer; have HGD := Lib.hid hgd; have HMD := Lib.hid (HMR.out.step ((Mod.of_grow (HGX.out.step HD.out)).step (hmd.mono (fun b hb => hb.1)))); have HKD := Lib.hid (And.intro (catCellAt ((hmd.block bc (Nat.lt_of_lt_of_le (blk_lt HCAT.out) HD.out.size) (fun h => by have := h.2; omega)).trans ((HD.out.heapEq (blk_lt HCAT.out)).trans HCAT.out)) (Grow.rfl' wd)) (HS.out wd ((Mod.of_grow (HGX.out.step HD.out)).step (hmd.mono (fun b hb => hb.1))))); clear hgd hmd))
        all_goals go_wp2
        all_goals go_roundg (l2.length - (j + 1))
        case measure => omega
        case rel => exact ⟨j + 1, by omega, rfl, by go_num, by rw [HRN.out]; exact HGD.out, HMD.out⟩
    · obtain rfl : j = l2.length := by omega
      have hjend : l2.take l2.length = l2 := List.take_length
      rw [hjend] at HGP
      clear hjl
      obtain ⟨SX, hokx, -⟩ := HGP.out
      have hix := runG_inv HMO.out.1 l2
      have HGA := Lib.hid (gAt_of hokx.rd hix)
      have H64 := Lib.hid (ends_wf hix (ends_run (ends_good HMO.out.2.1) l2))
      have HGW := Lib.hid (show Grow w wr from HG0.out.modd HMR.out (fun b hb => hb.elim (fun h => by have := HSB.out b h; omega) (fun h => Nat.le_trans HG0.out.size h)))
      have HRW := Lib.hid (show RuleBox wr w.heap.size r2 from (HMR.out.block _ (blk_lt HR0.out) (fun h => h.elim (fun h => by have := HSB.out _ h; omega) (fun h => by have := blk_lt HR0.out; omega))).trans HR0.out)
      have HKP := Lib.hid (show ∀ w' nv ev, NodesR (fun _ => True) w' nv (runG G l2).nodes ∧ EdgesR (fun _ => True) w' ev (runG G l2).edges → Calls Tryz.prog 24 #[nv, ev, r2.args] w' fun e w2 => e = .returned (.bool true) ∧ Grow w' w2 from fun w' nv ev h => HKEEP.out ▸ ref15Keeps _ nv ev _ _ r2 w' h.1 h.2 (by have := (runG_inv HMO.out.1 l2).items; omega) (by have := (runG_inv HMO.out.1 l2).items; omega))
      have HDz := Lib.hid (show Grow wr wr.drew from (Grow.rfl' wr).drewd)
      have HSZ := Lib.hid (show ∀ w', Grow wr w' → RuleC w' w.heap.size r2 from fun w' g => (HRW.out.grow g).toC)
      clear hokx hix
      go_wp2_with fail
      go_region_held3 (fun w' => RuleC w' w.heap.size r2) (first | exact HSZ.out _ HGz.out | exact HSZ.out _ HGk.out | exact HSZ.out _ HGe.out | exact HSZ.out _ HGn.out | exact HSZ.out _ HDz.out) (first | (go_at_call 20; refine (HGA.out _ HDz.out).1.mono ?_; rintro e wn ⟨vn, rfl, hn, gn⟩; have HNn := Lib.hid (nodesT hn); have HGn := Lib.hid (HDz.out.step gn); obtain ⟨_, _, rfl, _⟩ := SlR.open hn; clear hn gn) | (go_at_call 21; refine (HGA.out _ HGn.out).2.mono ?_; rintro e we ⟨ve, rfl, he, ge⟩; have HNE := Lib.hid (And.intro (HNn.out.grow ge) (edgesT he)); have HGe := Lib.hid (HGn.out.step ge); obtain ⟨_, _, rfl, _⟩ := SlR.open he; clear he ge) | (go_at_call 24; refine (HKP.out _ _ _ HNE.out).mono ?_; rintro e wk ⟨rfl, gk⟩; have HGk := Lib.hid (HGe.out.step gk); clear gk) | (go_at_call 37; refine (law20Wakes _).mono ?_; rintro e wz ⟨rfl, gz⟩; have HGz := Lib.hid (HGk.out.step gz); clear gz))
      all_goals go_wp2
      all_goals go_ret
      all_goals exact ⟨rfl, HGW.out.step HGz.out⟩
end Go.Hg
