/- law20.Fair, Own: what they return; dirty.Join: both lists' spots in order. Conditions: those that each theorem names. -/
import Derived.WalkKit
import Derived.WalkSpells
import Derived.WalkLawsBesides
import Derived.Lib.Hide
import Derived.BigQuiet
import Derived.Deep.LoopGhost
import Derived.Test.YtanijffgogpmdaaGreatRows
import Derived.Lib.SliceRun
import Derived.WideMake
import Derived.Deep.RegionLaw
import Derived.Lib.Overlaps
import Derived.Deep.RegionHeld3
import Derived.Laws.ResultCell
import Derived.Laws.EntriesVeiled
import Derived.Maps.OwnOps
import Derived.Maps.OwnSet
import Derived.Carry
import Derived.Lib.SlKeysI
import Derived.Maps.RangeWalk
import Derived.Lib.SlMapFilter
import Derived.Deep.DeepCutAuto
import Derived.Shelf.SlIterI.Nil
import Derived.Shelf.SortM.Plain
import Derived.Shelf.SortM.SortNone
import Derived.Shelf.SlMaps.DeleteFunc
import Derived.Shelf.SlSortCmp.WholeK
import Derived.Shelf.SlIterI.Collect
import Derived.RangeFuncBox
import Derived.RangeFuncLeaves
import Derived.RangeFuncWrites
import Derived.Maps.AppendAt
import Derived.Test.YtanijffgogpmdaaGreatDirN
import Derived.Test.YtanijffgogpmdaaGreatDirO
import Derived.Test.YtanijffgogpmdaaGreatDirP
import Derived.Test.YtanijffgogpmdaaGreatDirR
import Derived.Test.YtanijffgogpmdaaGreatDirS
namespace Go.Hg
open Go.RowKit Go.Proofs

set_option maxRecDepth 100000 in
set_option maxHeartbeats 1000000 in
theorem law20Own (S : Nat → Prop) (v : Value) (l : List PSpot) (w : World) (hl : SpotsR S w v l) (hb : l.length ≤ 1099511627776) :
    Calls Tryz.prog 32 #[v] w fun e w' => ∃ v', e = .returned v' ∧ SpotsR (fun b => w.heap.size ≤ b) w' v' l ∧ Grow w w' := by
  obtain ⟨aa, ca, rfl, hal, hac, hA⟩ := SlR.open hl
  clear hl
  unfold maxLen at hac
  have HA := Lib.hid hA; clear hA
  have HI0 := Lib.hid (OwnN.nil (e := 140) (sz := 3) (R := RSpot) w.heap.size w)
  go_enter Tryz.func32, Tryz.ntmps32
  go_wp2
  go_loopg [3, 4] l.length (fun g ov i wr => ∃ k : Nat, k ≤ l.length ∧ g = l.length - k ∧ i = .int .i64 k ∧ OwnN 140 3 RSpot w.heap.size wr ov (l.take k) ∧ Grow w wr)
  case atStart => exact ⟨0, by omega, by omega, rfl, by simpa using HI0.out, Grow.rfl' w⟩
  case round =>
    obtain ⟨k, hk, rfl, rfl, hi, hgr⟩ := hrel
    obtain ⟨oa, co, rfl, _, _⟩ := hi.isSlice
    have HI := Lib.hid hi; have HG := Lib.hid hgr
    by_cases hkl : k < l.length
    · obtain ⟨ba, oa', ra, rfl, hSa, hba, hRa, hca⟩ := HA.out k l[k] (List.getElem?_eq_getElem hkl)
      have HX := Lib.hid (show ∀ w', Grow w w' → _ from fun w' g => spotAt hRa hba g hca)
      obtain ⟨hba', a0, a1, a2⟩ := HX.out wr.drew hgr.drewd
      have HT := Lib.hid (show l.take (k + 1) = l.take k ++ [l[k]] from List.take_succ_eq_append_getElem hkl)
      have HLE := Lib.hid (show (l.take k).length ≤ l.length by rw [List.length_take]; omega)
      clear hca hRa hSa hba hi hgr
      generalize l[k] = x at *
      generalize hfl : l.take k = fl at *
      have HE := Lib.hid (show ∀ o1, Grow w (wr.drew.alloc o1) ∧ OwnN 140 3 RSpot w.heap.size (wr.drew.alloc o1) (.slice oa fl.length co) fl from fun o1 => ⟨HG.out.drewd.allocd o1, HI.out.grow ((Grow.rfl' wr).drewd.allocd o1)⟩)
      have hzs := HG.out.size
      clear hfl
      go_wp2_with fail
      go_region_law (refine step_append_R rfl (.tmp 11) (.tmp 28) 67 rfl rowRefSpot Tryz.underlying67 w.heap.size _ fl (by first | rfl | simp [Act.eval]) (HE.out _).2 x x.cells rfl rfl (spotCells1 x) wr.heap.size (by first | rfl | simp [Act.eval]) (rdK _ _ _ 3 rfl rfl) (by simp; omega) (by have := HLE.out; unfold maxLen; omega) (by have := HLE.out; omega) ?_; intro v5 w5 k1 k2 k3; have H5 := Lib.hid k1; have HG5 := Lib.hid ((HE.out _).1.since k2 (Nat.le_refl _)); clear k1 k2 k3)
      all_goals
        go_wp2
        go_roundg (l.length - (k + 1))
        case measure => omega
        case rel => exact ⟨k + 1, by omega, rfl, by go_num, by rw [HT.out]; exact H5.out, HG5.out⟩
    · have hkk : l.take k = l := List.take_of_length_le (by omega)
      rw [hkk] at HI
      simp only [hkk]
      have HI2 := Lib.hid HI.out.toR
      clear hkk hi hgr
      go_wp2
      go_ret
      exact ⟨_, rfl, HI2.out, HG.out⟩
end Go.Hg

namespace Go.Hg
open Go.RowKit Go.Proofs MapKept Go.Maps

def preJ (a b : List PSpot) (i : Nat) : List PSpot := if i = 0 then [] else if i = 1 then a else a ++ b

set_option maxRecDepth 100000 in
set_option maxHeartbeats 4000000 in
theorem dirtyJoin (S S2 : Nat → Prop) (av bv : Value) (a b : List PSpot) (w : World) (ha : SpotsR S w av a) (hb : SpotsR S2 w bv b) (hla : a.length ≤ 20000) (hlb : b.length ≤ 20000) :
    Calls Tryz.prog 43 #[av, bv] w fun e w' => ∃ v L, e = .returned v ∧ SpSet L (a ++ b) ∧ SpotsR (fun q => w.heap.size ≤ q) w' v L ∧ Grow w w' := by
  obtain ⟨aa, ca, rfl, hal, hac, hA⟩ := SlR.open ha
  obtain ⟨ab, cb, rfl, hbl, hbc, hB⟩ := SlR.open hb
  unfold maxLen at hac hbc
  have HA := Lib.hid hA; have HB := Lib.hid hB
  have hbl2 := hbl
  clear ha hb hA hB
  have HM0 := Lib.hid (MapK.made (kv := PSpot.args) w)
  obtain ⟨W1, hW1⟩ : ∃ W1, (w.alloc (.map #[] 0)).alloc (.cells #[.slice aa a.length ca, .slice ab b.length cb] 59) = W1 := ⟨_, rfl⟩
  have HBX := Lib.hid (show W1.heap[w.heap.size + 1]? = some (.cells #[.slice aa a.length ca, .slice ab b.length cb] 59) by
    have h := heap_alloc_new (w.alloc (.map #[] 0)) (.cells #[.slice aa a.length ca, .slice ab b.length cb] 59)
    rw [World.size_alloc] at h
    rw [← hW1]; exact h)
  have HM1 := Lib.hid (show MapK PSpot.args W1 w.heap.size (cntK ([] : List PSpot)) 0 from by
    rw [← hW1]; exact HM0.out.grow ((Grow.rfl' _).allocd _))
  have HG1 := Lib.hid (show Grow w W1 by rw [← hW1]; exact ((Grow.rfl' w).allocd _).allocd _)
  have hmm := @run_makeMap Tryz.prog
  go_enter Tryz.func43, Tryz.ntmps43
  go_wp2
  clear hmm
  clear hW1 HM0
  go_loopg [15] 2 (fun g iv wr => ∃ i : Nat, i ≤ 2 ∧ g = 2 - i ∧ iv = .int .i64 i ∧ MapK PSpot.args wr w.heap.size (cntK (preJ a b i)) (preJ a b i).length ∧ Mod (fun q => q = w.heap.size) W1 wr)
  case atStart => exact ⟨0, by omega, by omega, rfl, HM1.out, Mod.rfl' _ _⟩
  case round =>
    obtain ⟨i, hi, rfl, rfl, hm, hmw⟩ := hrel
    have HMW0 := Lib.hid hmw
    have HM2 := Lib.hid hm
    have hbx : wr.heap[w.heap.size + 1]? = some (.cells #[.slice aa a.length ca, .slice ab b.length cb] 59) := (hmw.block _ (blk_lt HBX.out) (by omega)).trans HBX.out
    have hbl := blk_lt hbx
    have e0 : wr.cell? ⟨w.heap.size + 1, 0, none⟩ = some (.slice aa a.length ca) := (blk_cell hbx _).trans rfl
    have e1 : wr.cell? ⟨w.heap.size + 1, 1, none⟩ = some (.slice ab b.length cb) := (blk_cell hbx _).trans rfl
    by_cases hi2 : i < 2
    · obtain ⟨ax, cx, x, hxl, hxp, hcx, hxm, hE⟩ : ∃ (ax : Option Addr) (cx : Nat) (x : List PSpot), x.length ≤ 20000 ∧ preJ a b (i + 1) = preJ a b i ++ x ∧ wr.cell? ⟨w.heap.size + 1, i, none⟩ = some (.slice ax x.length cx) ∧ x.length ≤ cx ∧ ∀ (j : Nat) (hj : j < x.length), ∃ ba oa, ax = some ⟨ba, oa, none⟩ ∧ ∀ w', Grow w w' → ba < w'.heap.size ∧ w'.cell? ⟨ba, oa + j * 3, none⟩ = some (.int .i64 x[j].kind) ∧ w'.cell? ⟨ba, oa + j * 3 + 1, none⟩ = some (.string x[j].typ) ∧ w'.cell? ⟨ba, oa + j * 3 + 2, none⟩ = some (.string x[j].name) := by
        have hi01 : i = 0 ∨ i = 1 := by omega
        rcases hi01 with rfl | rfl
        · refine ⟨aa, ca, a, hla, by simp [preJ], e0, hal, fun j hj => ?_⟩
          obtain ⟨ba, oa, ra, rfl, -, hba, hRa, hca⟩ := HA.out j a[j] (List.getElem?_eq_getElem hj)
          exact ⟨ba, oa, rfl, fun w' g => spotAt hRa hba g hca⟩
        · refine ⟨ab, cb, b, hlb, by simp [preJ], e1, hbl2, fun j hj => ?_⟩
          obtain ⟨ba, oa, ra, rfl, -, hba, hRa, hca⟩ := HB.out j b[j] (List.getElem?_eq_getElem hj)
          exact ⟨ba, oa, rfl, fun w' g => spotAt hRa hba g hca⟩
      have HXP := Lib.hid hxp; have HE := Lib.hid hE
      have HPL := Lib.hid (show (preJ a b i).length ≤ 40000 by
        have hi01 : i = 0 ∨ i = 1 := by omega
        rcases hi01 with rfl | rfl
        · simp [preJ]
        · simp [preJ]; omega)
      clear hm hmw hbx e0 e1 hxp hE
      generalize hpre : preJ a b i = pre at *
      clear hpre
      obtain ⟨wo, hwo⟩ : ∃ wo, wo = wr := ⟨_, rfl⟩
      subst hwo
      go_wp2
      go_loopg [21] x.length (fun g jv wi => ∃ j : Nat, j ≤ x.length ∧ g = x.length - j ∧ jv = .int .i64 j ∧ MapK PSpot.args wi w.heap.size (cntK (pre ++ x.take j)) (pre.length + j) ∧ Mod (fun q => q = w.heap.size) W1 wi)
      case atStart => exact ⟨0, by omega, by omega, rfl, by simpa using HM2.out, HMW0.out⟩
      case round =>
        obtain ⟨j, hj, rfl, rfl, hm, hmw⟩ := hrel
        have HM := Lib.hid hm; have HMV := Lib.hid hmw
        obtain ⟨wi, hwi⟩ : ∃ wi, wi = wr := ⟨_, rfl⟩
        subst hwi
        have hml := hm.lt
        by_cases hjl : j < x.length
        · obtain ⟨ba, oa, rfl, hcell⟩ := HE.out j hjl
          obtain ⟨hba, a0, a1, a2⟩ := hcell wi (HG1.out.modd hmw (fun q hq => by omega))
          have HT := Lib.hid (show x.take (j + 1) = x.take j ++ [x[j]] from List.take_succ_eq_append_getElem hjl)
          clear hcell hm hmw
          generalize x[j] = y at *
          have hnew : ∀ w' : World, (w'.heap[wi.heap.size]? = some (.cells #[.int .i64 y.kind, .string y.typ, .string y.name] 136 (0, 0))) → w'.cell? ⟨wi.heap.size, 0, none⟩ = some (.int .i64 y.kind) ∧ w'.cell? ⟨wi.heap.size, 1, none⟩ = some (.string y.typ) ∧ w'.cell? ⟨wi.heap.size, 2, none⟩ = some (.string y.name) := fun w' h => ⟨by rw [blk_cell h]; rfl, by rw [blk_cell h]; rfl, by rw [blk_cell h]; rfl⟩
          have hbx : (wi.alloc (.cells #[.int .i64 y.kind, .string y.typ, .string y.name] 136 (0, 0))).drew.heap[wi.heap.size]? = some (.cells #[.int .i64 y.kind, .string y.typ, .string y.name] 136 (0, 0)) := heap_alloc_new wi _
          have KEEP0 := Lib.hid (hnew _ hbx)
          have KEEP5 := Lib.hid (show ∀ w5 : World, Mod (fun q => q = w.heap.size) (wi.alloc (.cells #[.int .i64 y.kind, .string y.typ, .string y.name] 136 (0, 0))).drew w5 → _ from fun w5 h => hnew w5 ((h.block _ (blk_lt hbx) (by show ¬ wi.heap.size = w.heap.size; omega)).trans hbx))
          have HM3 := Lib.hid (show MapK PSpot.args (wi.alloc (.cells #[.int .i64 y.kind, .string y.typ, .string y.name] 136 (0, 0))).drew w.heap.size (cntK (pre ++ x.take j)) (pre.length + j) from HM.out.grow (((Grow.rfl' wi).allocd _).drewd))
          have HMW := Lib.hid (show Mod (fun q => q = w.heap.size) W1 (wi.alloc (.cells #[.int .i64 y.kind, .string y.typ, .string y.name] 136 (0, 0))).drew from HMV.out.step (Mod.of_grow (((Grow.rfl' wi).allocd _).drewd)))
          have HWR := Lib.hid (show IntKind.i64.wrap (((pre ++ x.take j).count y : Int) + 1) = ((pre ++ x.take j).count y : Int) + 1 by
            have h1 := List.count_le_length (a := y) (l := pre ++ x.take j)
            have h2 := HPL.out
            rw [List.length_append, List.length_take] at h1
            rw [IntKind.wrap_i64] <;> omega)
          clear hnew hbx
          obtain ⟨MM, hMM⟩ : ∃ MM, pre ++ x.take j = MM := ⟨_, rfl⟩
          have HT2 := Lib.hid (show pre ++ x.take (j + 1) = MM ++ [y] by rw [HT.out, ← List.append_assoc, hMM])
          rw [hMM] at HM3 HWR
          clear HM hMM
          go_wp2_with fail
          refine wp_region_noPanic ?_
          refine wp_region_held_drew (S := fun w' => w'.cell? ⟨wi.heap.size, 0, none⟩ = some (.int .i64 y.kind) ∧ w'.cell? ⟨wi.heap.size, 1, none⟩ = some (.string y.typ) ∧ w'.cell? ⟨wi.heap.size, 2, none⟩ = some (.string y.name)) (by kernel_rfl) ?_ (fun hHeld => ?_)
          · exact KEEP0.out
          refine' wpAnyH_take (i := 0) (oi := ?o1) (v := _) (by simp only [List.getElem?_toArray, List.getElem?_cons_zero]; rfl) (by kernel_rfl) (by kernel_rfl) (by kernel_rfl) (fun _ _ _ h => h) (Or.inl ⟨by rfl, ?y1⟩) (by assumption) ?r1
          case y1 =>
            intro wS hSw
            try dsimp only at hSw
            go_simp
            all_goals with_reducible rfl
          simp only [Act.put, List.setIfInBounds_toArray, List.set_cons_zero, List.set_cons_succ]
          refine' wpAnyH_take (i := 1) (oi := ?o2) (v := _) (by simp only [List.getElem?_toArray, List.getElem?_cons_succ, List.getElem?_cons_zero]; rfl) (by kernel_rfl) (by kernel_rfl) (by kernel_rfl) (fun _ _ _ h => h) (Or.inl ⟨by rfl, ?y2⟩) (by assumption) ?r2
          case y2 =>
            intro wS hSw
            try dsimp only at hSw
            go_simp
            all_goals with_reducible rfl
          simp only [Act.put, List.setIfInBounds_toArray, List.set_cons_zero, List.set_cons_succ]
          refine wpAnyH_ready (rs := [2, 4]) (by kernel_rfl) (by simp) ?_
          refine' AllReadyH.cons (o := ?o3) (by simp only [List.getElem?_toArray, List.getElem?_cons_succ, List.getElem?_cons_zero]; rfl) (fun K hK => ?s3) ?m3
          rotate_left
          · refine' AllReadyH.cons (o := ?o4) (by simp only [List.getElem?_toArray, List.getElem?_cons_succ, List.getElem?_cons_zero]; rfl) (fun K hK => ?s4) ?m4
            case m4 => exact AllReadyH.nil
            refine step_entryK rfl (.tmp 25) (.tmp 26) 148 rfl 136 3 Tryz.underlying148 keySpot (.int .i64 0) zeroIntV (by rfl) HM3.out y (by rfl) _ (cntK_getD _ y) ?_
            intro w5 s5 q1 q2 q3 q4
            refine hK.out _ _ ?_ (fun hHeld => ?_)
            · exact KEEP5.out w5 q3
            clear hK K
            try simp only [Act.put, List.setIfInBounds_toArray, List.set_cons_zero, List.set_cons_succ]
            refine' wpAnyH_take (i := 5) (oi := ?o5) (v := _) (by simp only [List.getElem?_toArray, List.getElem?_cons_succ, List.getElem?_cons_zero]; rfl) (by kernel_rfl) (by kernel_rfl) (by kernel_rfl) (fun _ _ _ h => h) (Or.inl ⟨by rfl, ?y5⟩) (by assumption) ?r5
            case y5 =>
              intro wS hSw
              try dsimp only at hSw
              go_simp
              all_goals with_reducible rfl
            simp only [Act.put, List.setIfInBounds_toArray, List.set_cons_zero, List.set_cons_succ]
            refine wpAnyH_ready (rs := [2]) (by kernel_rfl) (by simp) ?_
            refine' AllReadyH.cons (o := ?o6) (by simp only [List.getElem?_toArray, List.getElem?_cons_succ, List.getElem?_cons_zero]; rfl) (fun K hK => ?s6) ?m6
            case m6 => exact AllReadyH.nil
            refine step_lookK rfl (.tmp 25) (.tmp 26) 148 rfl 136 3 Tryz.underlying148 keySpot (.int .i64 0) (zeroIntV _) (by rfl) q1 y (by rfl) (.int .i64 ((MM).count y : Int)) (by rw [kput_same]; rfl) ?_
            refine hK.out _ _ ?_ (fun hHeld => ?_)
            · exact KEEP5.out w5 q3
            clear hK K
            try simp only [Act.put, List.setIfInBounds_toArray, List.set_cons_zero, List.set_cons_succ]
            refine' wpAnyH_take (i := 3) (oi := ?o7) (v := _) (by simp only [List.getElem?_toArray, List.getElem?_cons_succ, List.getElem?_cons_zero]; rfl) (by kernel_rfl) (by kernel_rfl) (by kernel_rfl) (fun _ _ _ h => h) (Or.inl ⟨by rfl, ?y7⟩) (by assumption) ?r7
            case y7 =>
              intro wS hSw
              try dsimp only at hSw
              go_simp
              all_goals with_reducible rfl
            simp only [Act.put, List.setIfInBounds_toArray, List.set_cons_zero, List.set_cons_succ]
            refine wpAnyH_ready (rs := [6]) (by kernel_rfl) (by simp) ?_
            refine' AllReadyH.cons (o := ?o8) (by simp only [List.getElem?_toArray, List.getElem?_cons_succ, List.getElem?_cons_zero]; rfl) (fun K hK => ?s8) ?m8
            case m8 => exact AllReadyH.nil
            refine step_storeK rfl (.tmp 25) (.tmp 30) (.tmp 28) 148 rfl 136 keySpot (by rfl) q1 y s5 (by rfl) q2 (.int .i64 (((MM).count y : Int) + 1)) (by simp [Act.eval, HWR.out]) ?_
            intro w6 p1 p3 p4
            rw [kput_twice, ← kput_twice _ _ (.int .i64 0), cntK_step] at p1
            refine hK.out _ _ ?_ (fun hHeld => ?_)
            · exact KEEP5.out w6 (q3.step p3)
            clear hK K
            try simp only [Act.put]
            refine wpAnyH_done (by kernel_rfl) ?_ _
            refine NoPanic.normal ?_
            have HM6 := Lib.hid p1
            have HM7 := Lib.hid (HMW.out.step (q3.step p3))
            clear q1 q2 q3 q4 p1 p3 p4
            go_wp2
            go_roundg (x.length - (j + 1))
            case measure => omega
            case rel => exact ⟨j + 1, by omega, rfl, by go_num, by rw [HT2.out]; exact HM6.out.mono (by omega), HM7.out⟩
          refine step_lookK rfl (.tmp 25) (.tmp 26) 148 rfl 136 3 Tryz.underlying148 keySpot (.int .i64 0) (zeroIntV _) (by rfl) HM3.out y (by rfl) _ (cntK_getD _ y) ?_
          refine hK.out _ _ ?_ (fun hHeld => ?_)
          · exact KEEP0.out
          clear hK K
          try simp only [Act.put, List.setIfInBounds_toArray, List.set_cons_zero, List.set_cons_succ]
          refine' wpAnyH_take (i := 3) (oi := ?o9) (v := _) (by simp only [List.getElem?_toArray, List.getElem?_cons_succ, List.getElem?_cons_zero]; rfl) (by kernel_rfl) (by kernel_rfl) (by kernel_rfl) (fun _ _ _ h => h) (Or.inl ⟨by rfl, ?y9⟩) (by assumption) ?r9
          case y9 =>
            intro wS hSw
            try dsimp only at hSw
            go_simp
            all_goals with_reducible rfl
          simp only [Act.put, List.setIfInBounds_toArray, List.set_cons_zero, List.set_cons_succ]
          refine wpAnyH_ready (rs := [4]) (by kernel_rfl) (by simp) ?_
          refine' AllReadyH.cons (o := ?o10) (by simp only [List.getElem?_toArray, List.getElem?_cons_succ, List.getElem?_cons_zero]; rfl) (fun K hK => ?s10) ?m10
          case m10 => exact AllReadyH.nil
          refine step_entryK rfl (.tmp 25) (.tmp 26) 148 rfl 136 3 Tryz.underlying148 keySpot (.int .i64 0) zeroIntV (by rfl) HM3.out y (by rfl) _ (cntK_getD _ y) ?_
          intro w5 s5 q1 q2 q3 q4
          refine hK.out _ _ ?_ (fun hHeld => ?_)
          · exact KEEP5.out w5 q3
          clear hK K
          try simp only [Act.put, List.setIfInBounds_toArray, List.set_cons_zero, List.set_cons_succ]
          refine' wpAnyH_take (i := 5) (oi := ?o11) (v := _) (by simp only [List.getElem?_toArray, List.getElem?_cons_succ, List.getElem?_cons_zero]; rfl) (by kernel_rfl) (by kernel_rfl) (by kernel_rfl) (fun _ _ _ h => h) (Or.inl ⟨by rfl, ?y11⟩) (by assumption) ?r11
          case y11 =>
            intro wS hSw
            try dsimp only at hSw
            go_simp
            all_goals with_reducible rfl
          simp only [Act.put, List.setIfInBounds_toArray, List.set_cons_zero, List.set_cons_succ]
          refine wpAnyH_ready (rs := [6]) (by kernel_rfl) (by simp) ?_
          refine' AllReadyH.cons (o := ?o12) (by simp only [List.getElem?_toArray, List.getElem?_cons_succ, List.getElem?_cons_zero]; rfl) (fun K hK => ?s12) ?m12
          case m12 => exact AllReadyH.nil
          refine step_storeK rfl (.tmp 25) (.tmp 30) (.tmp 28) 148 rfl 136 keySpot (by rfl) q1 y s5 (by rfl) q2 (.int .i64 (((MM).count y : Int) + 1)) (by simp [Act.eval, HWR.out]) ?_
          intro w6 p1 p3 p4
          rw [kput_twice, ← kput_twice _ _ (.int .i64 0), cntK_step] at p1
          refine hK.out _ _ ?_ (fun hHeld => ?_)
          · exact KEEP5.out w6 (q3.step p3)
          clear hK K
          try simp only [Act.put]
          refine wpAnyH_done (by kernel_rfl) ?_ _
          refine NoPanic.normal ?_
          have HM6 := Lib.hid p1
          have HM7 := Lib.hid (HMW.out.step (q3.step p3))
          clear q1 q2 q3 q4 p1 p3 p4
          go_wp2
          go_roundg (x.length - (j + 1))
          case measure => omega
          case rel => exact ⟨j + 1, by omega, rfl, by go_num, by rw [HT2.out]; exact HM6.out.mono (by omega), HM7.out⟩
        · have hkk : x.take j = x := List.take_of_length_le (by omega)
          have hjx : j = x.length := by omega
          rw [hkk, hjx] at HM
          clear hm hmw hkk
          go_wp2
          go_roundg (2 - (i + 1))
          case measure => omega
          case rel => exact ⟨i + 1, by omega, rfl, by go_num, by rw [HXP.out, List.length_append]; exact HM.out, HMV.out⟩
    · obtain rfl : i = 2 := by omega
      have HD := Lib.hid (dirtySorted w.heap.size _ _ wr hm (by unfold preJ; simp; omega))
      have HGW := Lib.hid (HG1.out.modd hmw (fun q hq => by omega))
      clear hm hmw hbx e0 e1 hbl
      go_wp2_with fail
      refine HD.out.mono ?_
      rintro e w3 ⟨v, L, rfl, h1, h2, h3, h4⟩
      obtain ⟨_, _, rfl, _⟩ := SlR.open h3
      have HX := Lib.hid (And.intro h1 (And.intro h2 (And.intro h3 h4)))
      clear h1 h2 h3 h4
      go_wp2
      go_ret
      refine ⟨_, L, rfl, ⟨HX.out.1, fun k => (HX.out.2.1 k).trans ?_⟩, HX.out.2.2.1.sub (fun q hq => by have := HGW.out.size; omega) (fun _ _ _ h => h), HGW.out.step HX.out.2.2.2⟩
      unfold cntK preJ
      simp only [show ¬ (2 = 0) by omega, show ¬ (2 = 1) by omega, if_false]
      by_cases hc : (a ++ b).count k = 0
      · rw [if_pos hc]
        exact ⟨fun h => absurd rfl h, fun h => absurd (List.count_pos_iff.2 h) (by omega)⟩
      · rw [if_neg hc]
        exact ⟨fun _ => List.count_pos_iff.1 (by omega), fun _ => by simp⟩
end Go.Hg
