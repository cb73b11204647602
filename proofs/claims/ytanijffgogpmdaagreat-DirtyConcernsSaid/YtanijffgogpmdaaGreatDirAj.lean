/- Who is near whom: the plain words of the reference's way; hedgerowref21.Whole; hedgerowref20.has, Touches; hedgerowref20.Touches; law20.Fair, Own: what they return; ref20.Spots, ref20.Join: spots in order; Arguments: rules, catalogs (the rules' Ids are numbers of 64 bits), spots. Conditions: those that each theorem names. -/
import Derived.WalkKit
import Derived.WalkSpells
import Derived.WalkLawsBesides
import Derived.Lib.Hide
import Derived.BigQuiet
import Derived.Deep.LoopGhost
import Derived.Test.YtanijffgogpmdaaGreatRows
import Derived.Lib.SliceRun
import Derived.WideMake
import Derived.Deep.RegionLaw
import Derived.Lib.Overlaps
import Derived.Deep.RegionHeld3
import Derived.Laws.ResultCell
import Derived.Laws.EntriesVeiled
import Derived.Maps.OwnOps
import Derived.Maps.OwnSet
import Derived.Carry
import Derived.Lib.SlKeysI
import Derived.Maps.RangeWalk
import Derived.Lib.SlMapFilter
import Derived.Deep.DeepCutAuto
import Derived.Shelf.SlIterI.Nil
import Derived.Shelf.SortM.Plain
import Derived.Shelf.SortM.SortNone
import Derived.Shelf.SlMaps.DeleteFunc
import Derived.Shelf.SlSortCmp.WholeK
import Derived.Shelf.SlIterI.Collect
import Derived.RangeFuncBox
import Derived.RangeFuncLeaves
import Derived.RangeFuncWrites
import Derived.Maps.AppendAt
import Derived.Deep.CutBlock
import Derived.BigRegion
import Derived.RowKit
import Derived.ReadAgain
import Derived.ChangeOld
import Derived.Deep.Slices
import Derived.OpenShut
import Derived.Test.YtanijffgogpmdaaGreatDirN
import Derived.Test.YtanijffgogpmdaaGreatDirO
import Derived.Test.YtanijffgogpmdaaGreatDirP
import Derived.Test.YtanijffgogpmdaaGreatDirR
import Derived.Test.YtanijffgogpmdaaGreatDirS
import Derived.Test.YtanijffgogpmdaaGreatDirT
import Derived.Test.YtanijffgogpmdaaGreatDirW
import Derived.Test.YtanijffgogpmdaaGreatDirAa
import Derived.Test.YtanijffgogpmdaaGreatDirAc
import Derived.Test.YtanijffgogpmdaaGreatDirAd
namespace Go.Hg
section
variable {E : List PEdge} {typ : ByteArray}

theorem spotL_le (l : List Int) (n : Int) : spotL l n ≤ l.length := (List.takeWhile_sublist _).length_le
theorem putL_len (l : List Int) (n : Int) : (putL l n).length ≤ l.length + 1 := by
  unfold putL
  split
  · omega
  · simp only [List.length_append, List.length_take, List.length_cons, List.length_drop]
    have := spotL_le l n
    omega
end
end Go.Hg

namespace Go.Hg
open Go.RowKit Go.Proofs

set_option maxRecDepth 100000 in
set_option maxHeartbeats 2000000 in
theorem ref20Has (S : Nat → Prop) (lv : Value) (l : List PSpot) (s : PSpot) (w : World) (hl : SpotsR S w lv l) :
    Calls Tryz.prog 123 #[lv, s.args] w fun e w' => e = .returned (.bool (decide (s ∈ l))) ∧ Grow w w' := by
  obtain ⟨al, cl, rfl, hll, hlc, hL⟩ := SlR.open hl
  unfold maxLen at hlc
  have HL := Lib.hid hL
  have HW := Lib.hid (show ∀ o1, Grow w (w.alloc o1) from fun o1 => (Grow.rfl' w).allocd o1)
  have HNB := Lib.hid (show ∀ o1 w', Grow (w.alloc o1) w' → w'.heap[w.heap.size]? = some o1 from fun o1 w' hg => by rw [hg.heapEq (by simp)]; exact heap_alloc_new w _)
  clear hl hL
  go_enter Tryz.func123, Tryz.ntmps123
  go_wp2
  obtain ⟨W1, hW1⟩ : ∃ W1, w.alloc (.cells #[.int .i64 s.kind, .string s.typ, .string s.name] 140) = W1 := ⟨_, rfl⟩
  have HB := Lib.hid (show ∀ w', Grow W1 w' → w'.heap[w.heap.size]? = some (.cells #[.int .i64 s.kind, .string s.typ, .string s.name] 140 (0, 0)) from fun w' g => HNB.out _ w' (hW1 ▸ g))
  have HG1 := Lib.hid (show Grow w W1 from hW1 ▸ HW.out _)
  rw [hW1]
  clear hW1
  go_loopg [5] l.length (fun g kv wr => ∃ k : Nat, k ≤ l.length ∧ g = l.length - k ∧ kv = .int .i64 k ∧ s ∉ l.take k ∧ Grow W1 wr)
  case atStart => exact ⟨0, by omega, by omega, rfl, by simp, Grow.rfl' W1⟩
  case round =>
    obtain ⟨k, hk, rfl, rfl, hno, hg⟩ := hrel
    have HNO := Lib.hid hno; have HG := Lib.hid hg
    have hbx := HB.out wr hg
    have hbl := blk_lt hbx
    have s0 : wr.cell? ⟨w.heap.size, 0, none⟩ = some (.int .i64 s.kind) := (blk_cell hbx _).trans rfl
    have s1 : wr.cell? ⟨w.heap.size, 1, none⟩ = some (.string s.typ) := (blk_cell hbx _).trans rfl
    have s2 : wr.cell? ⟨w.heap.size, 2, none⟩ = some (.string s.name) := (blk_cell hbx _).trans rfl
    clear hno hg hbx
    by_cases hkl : k < l.length
    · obtain ⟨ba, oa, ra, rfl, hSa, hba, hRa, hca⟩ := HL.out k l[k] (List.getElem?_eq_getElem hkl)
      obtain ⟨hal, a0, a1, a2⟩ := spotAt hRa hba (HG1.out.step HG.out) hca
      clear hca hRa hSa hba
      have HT := Lib.hid (show l.take (k + 1) = l.take k ++ [l[k]] from List.take_succ_eq_append_getElem hkl)
      have HM := Lib.hid (show l[k] ∈ l from List.getElem_mem hkl)
      generalize l[k] = x at *
      obtain ⟨b0, hb0⟩ : ∃ b, (x.kind == s.kind) = b := ⟨_, rfl⟩
      obtain ⟨b1, hb1⟩ : ∃ b, decide (x.typ = s.typ) = b := ⟨_, rfl⟩
      obtain ⟨b2, hb2⟩ : ∃ b, decide (x.name = s.name) = b := ⟨_, rfl⟩
      have HEQ := Lib.hid (show decide (x = s) = (b0 && (b1 && b2)) by
        rw [← hb0, ← hb1, ← hb2, int_beq]
        simp only [spot_eq, Bool.decide_and])
      have HSTEP := Lib.hid (show x ≠ s → s ∉ l.take (k + 1) from fun h => mem_take_snoc HT.out HNO.out (Ne.symm h))
      have HYES := Lib.hid (show decide (x = s) = true → decide (s ∈ l) = true from fun h => decide_eq_true ((of_decide_eq_true h) ▸ HM.out))
      have HGR := Lib.hid (show ∀ w4, Grow wr w4 → Grow W1 w4 from fun w4 h => HG.out.step h)
      cases b0
      · have HX := Lib.hid (HSTEP.out (of_decide_eq_false (by rw [HEQ.out]; rfl)))
        go_wp2_with fail
        refine wp_region_grow (by kernel_rfl) (by kernel_rfl) ?_
        repeat (go_big_quiet_step (fail))
        refine wpQuiet_nil ?_
        intro w4 hw4
        go_wp2_with fail
        go_roundg (l.length - (k + 1))
        case measure => omega
        case rel => exact ⟨k + 1, by omega, rfl, by go_num, HX.out, HGR.out _ hw4⟩
      · cases b1
        · have HX := Lib.hid (HSTEP.out (of_decide_eq_false (by rw [HEQ.out]; rfl)))
          go_wp2_with fail
          refine wp_region_grow (by kernel_rfl) (by kernel_rfl) ?_
          repeat (go_big_quiet_step (fail))
          refine wpQuiet_nil ?_
          intro w4 hw4
          go_wp2_with fail
          go_roundg (l.length - (k + 1))
          case measure => omega
          case rel => exact ⟨k + 1, by omega, rfl, by go_num, HX.out, HGR.out _ hw4⟩
        · cases b2
          · have HX := Lib.hid (HSTEP.out (of_decide_eq_false (by rw [HEQ.out]; rfl)))
            go_wp2_with fail
            refine wp_region_grow (by kernel_rfl) (by kernel_rfl) ?_
            repeat (go_big_quiet_step (fail))
            refine wpQuiet_nil ?_
            intro w4 hw4
            go_wp2_with fail
            go_roundg (l.length - (k + 1))
            case measure => omega
            case rel => exact ⟨k + 1, by omega, rfl, by go_num, HX.out, HGR.out _ hw4⟩
          · have HX := Lib.hid (HYES.out (by rw [HEQ.out]; rfl))
            go_wp2_with fail
            refine wp_region_grow (by kernel_rfl) (by kernel_rfl) ?_
            repeat (go_big_quiet_step (fail))
            refine wpQuiet_nil ?_
            intro w4 hw4
            go_wp2
            go_ret
            exact ⟨by rw [HX.out]; rfl, HG1.out.step (HGR.out _ hw4)⟩
    · have hkk : l.take k = l := List.take_of_length_le (by omega)
      have HX := Lib.hid (show decide (s ∈ l) = false from decide_eq_false (hkk ▸ HNO.out))
      clear hkk
      go_wp2
      go_ret
      exact ⟨by rw [HX.out]; rfl, HG1.out.step HG.out⟩

theorem ref20HasB {S : Nat → Prop} {lv : Value} {l : List PSpot} {k : Int} {t n : ByteArray} {w : World} {b : Bool} (hl : SpotsR S w lv l) (hb : decide (PSpot.mk k t n ∈ l) = b) :
    Calls Tryz.prog 123 #[lv, .agg #[.int .i64 k, .string t, .string n]] w fun e w' => e = .returned (.bool b) ∧ Grow w w' := by
  subst hb
  exact ref20Has S lv l ⟨k, t, n⟩ w hl
end Go.Hg

namespace Go.Hg
open Go.RowKit Go.Proofs

set_option maxRecDepth 100000 in
set_option maxHeartbeats 1000000 in
theorem ref20Touches1 (S : Nat → Prop) (lv : Value) (l : List PSpot) (r : PRule) (w : World) (hl : SpotsR S w lv l) (hk : r.kind = 1) :
    Calls Tryz.prog 78 #[lv, r.args] w fun e w' => e = .returned (.bool (touchR l r)) ∧ Grow w w' := by
  have HL := Lib.hid hl
  obtain ⟨_, _, rfl, _⟩ := SlR.open hl
  have HW := Lib.hid (show ∀ o1, Grow w (w.alloc o1) from fun o1 => (Grow.rfl' w).allocd o1)
  obtain ⟨b, hb⟩ : ∃ b, decide (PSpot.mk 1 r.typ r.name ∈ l) = b := ⟨_, rfl⟩
  have HB := Lib.hid hb
  have HT := Lib.hid (show touchR l r = b by unfold touchR; rw [if_pos hk]; exact hb)
  have HK := Lib.hid hk
  have k1 : (r.kind == 1) = true := by rw [int_beq]; exact decide_eq_true HK.out
  clear hb hk
  clear hl
  go_enter Tryz.func78, Tryz.ntmps78
  go_wp2_with fail
  refine (ref20HasB (HL.out.grow (HW.out _)) HB.out).mono ?_
  rintro e w2 ⟨rfl, g2⟩
  have HG2 := Lib.hid ((HW.out _).step g2)
  clear g2
  go_wp2
  go_ret
  exact ⟨by rw [HT.out]; rfl, HG2.out⟩

set_option maxRecDepth 100000 in
set_option maxHeartbeats 1000000 in
theorem ref20Touches3 (S : Nat → Prop) (lv : Value) (l : List PSpot) (r : PRule) (w : World) (hl : SpotsR S w lv l) (hk : r.kind = 3) :
    Calls Tryz.prog 78 #[lv, r.args] w fun e w' => e = .returned (.bool (touchR l r)) ∧ Grow w w' := by
  have HL := Lib.hid hl
  obtain ⟨_, _, rfl, _⟩ := SlR.open hl
  have HW := Lib.hid (show ∀ o1, Grow w (w.alloc o1) from fun o1 => (Grow.rfl' w).allocd o1)
  obtain ⟨b, hb⟩ : ∃ b, decide (PSpot.mk 2 r.typ ByteArray.empty ∈ l) = b := ⟨_, rfl⟩
  have HB := Lib.hid hb
  have HT := Lib.hid (show touchR l r = b by unfold touchR; rw [if_neg (by omega), if_neg (by omega), if_pos (by omega)]; exact hb)
  have HK := Lib.hid hk
  have k1 : (r.kind == 1) = false := by rw [int_beq]; exact decide_eq_false (by have := HK.out; omega)
  have k2 : (r.kind == 2) = false := by rw [int_beq]; exact decide_eq_false (by have := HK.out; omega)
  have k3 : (r.kind == 3) = true := by rw [int_beq]; exact decide_eq_true HK.out
  clear hb hk
  clear hl
  go_enter Tryz.func78, Tryz.ntmps78
  go_wp2_with fail
  refine (ref20HasB (HL.out.grow (HW.out _)) HB.out).mono ?_
  rintro e w2 ⟨rfl, g2⟩
  have HG2 := Lib.hid ((HW.out _).step g2)
  clear g2
  go_wp2
  go_ret
  exact ⟨by rw [HT.out]; rfl, HG2.out⟩

set_option maxRecDepth 100000 in
set_option maxHeartbeats 1000000 in
theorem ref20Touches4 (S : Nat → Prop) (lv : Value) (l : List PSpot) (r : PRule) (w : World) (hl : SpotsR S w lv l) (hk : r.kind = 4) :
    Calls Tryz.prog 78 #[lv, r.args] w fun e w' => e = .returned (.bool (touchR l r)) ∧ Grow w w' := by
  have HL := Lib.hid hl
  obtain ⟨_, _, rfl, _⟩ := SlR.open hl
  have HW := Lib.hid (show ∀ o1, Grow w (w.alloc o1) from fun o1 => (Grow.rfl' w).allocd o1)
  obtain ⟨b, hb⟩ : ∃ b, decide (PSpot.mk 2 r.typ ByteArray.empty ∈ l) = b := ⟨_, rfl⟩
  have HB := Lib.hid hb
  have HT := Lib.hid (show touchR l r = b by unfold touchR; rw [if_neg (by omega), if_neg (by omega), if_pos (by omega)]; exact hb)
  have HK := Lib.hid hk
  have k1 : (r.kind == 1) = false := by rw [int_beq]; exact decide_eq_false (by have := HK.out; omega)
  have k2 : (r.kind == 2) = false := by rw [int_beq]; exact decide_eq_false (by have := HK.out; omega)
  have k3 : (r.kind == 3) = false := by rw [int_beq]; exact decide_eq_false (by have := HK.out; omega)
  have k4 : (r.kind == 4) = true := by rw [int_beq]; exact decide_eq_true HK.out
  clear hb hk
  clear hl
  go_enter Tryz.func78, Tryz.ntmps78
  go_wp2_with fail
  refine (ref20HasB (HL.out.grow (HW.out _)) HB.out).mono ?_
  rintro e w2 ⟨rfl, g2⟩
  have HG2 := Lib.hid ((HW.out _).step g2)
  clear g2
  go_wp2
  go_ret
  exact ⟨by rw [HT.out]; rfl, HG2.out⟩

set_option maxRecDepth 100000 in
set_option maxHeartbeats 1000000 in
theorem ref20Touches2 (S : Nat → Prop) (lv : Value) (l : List PSpot) (r : PRule) (w : World) (hl : SpotsR S w lv l) (hk : r.kind = 2) :
    Calls Tryz.prog 78 #[lv, r.args] w fun e w' => e = .returned (.bool (touchR l r)) ∧ Grow w w' := by
  have HL := Lib.hid hl
  obtain ⟨_, _, rfl, _⟩ := SlR.open hl
  have HW := Lib.hid (show ∀ o1, Grow w (w.alloc o1) from fun o1 => (Grow.rfl' w).allocd o1)
  obtain ⟨b, hb⟩ : ∃ b, decide (PSpot.mk 1 r.typ r.name ∈ l) = b := ⟨_, rfl⟩
  obtain ⟨b2, hb2⟩ : ∃ b, decide (PSpot.mk 1 r.typ ByteArray.empty ∈ l) = b := ⟨_, rfl⟩
  have HB := Lib.hid hb; have HB2 := Lib.hid hb2
  have HT := Lib.hid (show touchR l r = (b || b2) by unfold touchR; rw [if_neg (by omega), if_pos hk, hb, hb2])
  have HK := Lib.hid hk
  have k1 : (r.kind == 1) = false := by rw [int_beq]; exact decide_eq_false (by have := HK.out; omega)
  have k2 : (r.kind == 2) = true := by rw [int_beq]; exact decide_eq_true HK.out
  clear hb hb2 hk
  clear hl
  cases b
  · go_enter Tryz.func78, Tryz.ntmps78
    go_wp2_with fail
    refine (ref20HasB (HL.out.grow (HW.out _)) HB.out).mono ?_
    rintro e w2 ⟨rfl, g2⟩
    have HG2 := Lib.hid ((HW.out _).step g2)
    obtain ⟨hrl2, _, d2, d3, _, _, _, _, _⟩ := (ruleBoxNew w r w2 g2).cells
    clear g2
    go_wp2_with fail
    refine (ref20HasB (HL.out.grow HG2.out) HB2.out).mono ?_
    rintro e w3 ⟨rfl, g3⟩
    have HG3 := Lib.hid (HG2.out.step g3)
    clear g3
    go_wp2
    go_ret
    exact ⟨by rw [HT.out]; rfl, HG3.out⟩
  · go_enter Tryz.func78, Tryz.ntmps78
    go_wp2_with fail
    refine (ref20HasB (HL.out.grow (HW.out _)) HB.out).mono ?_
    rintro e w2 ⟨rfl, g2⟩
    have HG2 := Lib.hid ((HW.out _).step g2)
    clear g2
    go_wp2
    go_ret
    exact ⟨by rw [HT.out]; rfl, HG2.out⟩

set_option maxRecDepth 100000 in
set_option maxHeartbeats 1000000 in
theorem ref20Touches0 (S : Nat → Prop) (lv : Value) (l : List PSpot) (r : PRule) (w : World) (hl : SpotsR S w lv l) (hk : r.kind ≠ 1 ∧ r.kind ≠ 2 ∧ r.kind ≠ 3 ∧ r.kind ≠ 4) :
    Calls Tryz.prog 78 #[lv, r.args] w fun e w' => e = .returned (.bool (touchR l r)) ∧ Grow w w' := by
  have HL := Lib.hid hl
  obtain ⟨_, _, rfl, _⟩ := SlR.open hl
  have HW := Lib.hid (show ∀ o1, Grow w (w.alloc o1) from fun o1 => (Grow.rfl' w).allocd o1)
  have HT := Lib.hid (show touchR l r = false by unfold touchR; rw [if_neg (by omega), if_neg (by omega), if_neg (by omega)])
  have k1 : (r.kind == 1) = false := by rw [int_beq]; exact decide_eq_false (by omega)
  have k2 : (r.kind == 2) = false := by rw [int_beq]; exact decide_eq_false (by omega)
  have k3 : (r.kind == 3) = false := by rw [int_beq]; exact decide_eq_false (by omega)
  have k4 : (r.kind == 4) = false := by rw [int_beq]; exact decide_eq_false (by omega)
  clear hk
  clear hl
  go_enter Tryz.func78, Tryz.ntmps78
  go_wp2
  go_ret
  exact ⟨by rw [HT.out]; rfl, HW.out _⟩

theorem ref20Touches (S : Nat → Prop) (lv : Value) (l : List PSpot) (r : PRule) (w : World) (hl : SpotsR S w lv l) :
    Calls Tryz.prog 78 #[lv, r.args] w fun e w' => e = .returned (.bool (touchR l r)) ∧ Grow w w' := by
  by_cases h1 : r.kind = 1
  · exact ref20Touches1 S lv l r w hl h1
  by_cases h2 : r.kind = 2
  · exact ref20Touches2 S lv l r w hl h2
  by_cases h3 : r.kind = 3
  · exact ref20Touches3 S lv l r w hl h3
  by_cases h4 : r.kind = 4
  · exact ref20Touches4 S lv l r w hl h4
  exact ref20Touches0 S lv l r w hl ⟨h1, h2, h3, h4⟩
end Go.Hg

namespace Go.Hg
open Go.RowKit Go.Proofs

def fairSpots (l : List PSpot) : Bool := (l.all fun s => decide (s.typ.size ≤ 1000) && decide (s.name.size ≤ 1000)) && decide (l.length ≤ 100)
theorem rowSpot : RowT Tryz.prog 136 3 40 := RowT.of infoSpot rfl (by omega)
set_option maxRecDepth 100000 in
set_option maxHeartbeats 1000000 in
theorem law20Fair (S : Nat → Prop) (v : Value) (l : List PSpot) (w : World) (hl : SpotsR S w v l) :
    Calls Tryz.prog 27 #[v] w fun e w' => e = .returned (.bool (fairSpots l)) ∧ Grow w w' := by
  obtain ⟨aa, ca, rfl, hal, hac, hA⟩ := SlR.open hl
  clear hl
  unfold maxLen at hac
  have HA := Lib.hid hA; clear hA
  have hd : decide ((l.length : Int) ≤ 100) = decide (l.length ≤ 100) := by by_cases h : l.length ≤ 100 <;> simp [h] <;> omega
  have HDD := Lib.hid hd; clear hd
  go_enter Tryz.func27, Tryz.ntmps27
  go_wp2
  go_loopg [3] l.length (fun g i wr => ∃ k : Nat, k ≤ l.length ∧ g = l.length - k ∧ i = .int .i64 k ∧ (∀ y ∈ l.take k, y.typ.size ≤ 1000 ∧ y.name.size ≤ 1000) ∧ Grow w wr)
  case atStart => exact ⟨0, by omega, by omega, rfl, by simp, Grow.rfl' w⟩
  case round =>
    obtain ⟨k, hk, rfl, rfl, hall, hgr⟩ := hrel
    have HALL := Lib.hid hall; have HGR := Lib.hid hgr; clear hall
    by_cases hkl : k < l.length
    · obtain ⟨ba, oa, ra, rfl, hSa, hba, hRa, hca⟩ := HA.out k l[k] (List.getElem?_eq_getElem hkl)
      obtain ⟨hba', a0, a1, a2⟩ := spotAt hRa hba hgr hca
      clear hca hRa hSa hba hgr
      have HM := Lib.hid (show l[k] ∈ l from List.getElem_mem hkl)
      have HT := Lib.hid (show l.take (k + 1) = l.take k ++ [l[k]] from List.take_succ_eq_append_getElem hkl)
      generalize l[k] = x at *
      obtain ⟨b1, hb1⟩ : ∃ b, decide ((x.typ.size : Int) > 1000) = b := ⟨_, rfl⟩
      obtain ⟨b2, hb2⟩ : ∃ b, decide ((x.name.size : Int) > 1000) = b := ⟨_, rfl⟩
      cases b1
      · cases b2
        · have HX := Lib.hid (show x.typ.size ≤ 1000 ∧ x.name.size ≤ 1000 by have h1 := of_decide_eq_false hb1; have h2 := of_decide_eq_false hb2; omega)
          go_wp2
          go_roundg (l.length - (k + 1))
          case measure => omega
          case rel => exact ⟨k + 1, by omega, rfl, by go_num, by rw [HT.out]; intro y hy; rcases List.mem_append.1 hy with h | h; exact HALL.out y h; simp at h; subst h; exact HX.out, HGR.out⟩
        · have HF := Lib.hid (show fairSpots l = false by unfold fairSpots; rw [List.all_eq_false.2 ⟨x, HM.out, by have h2 := of_decide_eq_true hb2; simp; omega⟩]; rfl)
          go_wp2
          go_ret
          exact ⟨by rw [HF.out]; rfl, HGR.out⟩
      · have HF := Lib.hid (show fairSpots l = false by unfold fairSpots; rw [List.all_eq_false.2 ⟨x, HM.out, by have h2 := of_decide_eq_true hb1; simp; omega⟩]; rfl)
        go_wp2
        go_ret
        exact ⟨by rw [HF.out]; rfl, HGR.out⟩
    · have HF := Lib.hid (show fairSpots l = decide (l.length ≤ 100) by
        have h1 : l.take k = l := List.take_of_length_le (by omega)
        have h2 := HALL.out
        rw [h1] at h2
        unfold fairSpots
        rw [List.all_eq_true.2 (fun y hy => by have h := h2 y hy; simp; omega)]
        rfl)
      have hd := HDD.out
      clear hgr
      go_wp2
      go_ret
      exact ⟨by rw [HF.out]; first | rfl | (rw [← hd]; rfl), HGR.out⟩

end Go.Hg

namespace Go.Hg
open Go.RowKit Go.Proofs

set_option maxRecDepth 100000 in
set_option maxHeartbeats 8000000 in
theorem ref20Join (S S2 : Nat → Prop) (av bv : Value) (a b : List PSpot) (w : World) (ha : SpotsR S w av a) (hb : SpotsR S2 w bv b) (hla : a.length ≤ 10000) (hlb : b.length ≤ 10000) :
    Calls Tryz.prog 44 #[av, bv] w fun e w' => ∃ v L, e = .returned v ∧ SpSet L (a ++ b) ∧ SpotsR (fun _ => True) w' v L ∧ Grow w w' := by
  obtain ⟨aa, ca, rfl, hal, hac, hA⟩ := SlR.open ha
  obtain ⟨ab, cb, rfl, hbl, hbc, hB⟩ := SlR.open hb
  unfold maxLen at hac hbc
  have HA := Lib.hid hA; have HB := Lib.hid hB
  clear ha hb hA hB
  go_enter Tryz.func44, Tryz.ntmps44
  go_wp2
  go_loopg [5, 6] a.length (fun g ov iv wr => ∃ (k : Nat) (L : List PSpot), k ≤ a.length ∧ g = a.length - k ∧ iv = .int .i64 k ∧ SpSet L (a.take k) ∧ L.length ≤ k ∧ SpotsR (fun b => False ∨ 0 ≤ b) wr ov L ∧ (L = [] → ov = .slice none 0 0) ∧ Grow w wr)
  case atStart => exact ⟨0, [], by omega, by omega, rfl, by simpa using SpSet.nil, by simp, (OwnL.nil w 140 3 RSpot).toSl (by simp), fun _ => rfl, Grow.rfl' _⟩
  case round =>
    obtain ⟨k, L, hk, rfl, rfl, hs, hln, hsp, hnil, hg⟩ := hrel
    obtain ⟨aK, cK, rfl, -, -, -⟩ := SlR.open hsp
    have HS2 := Lib.hid hs; have HLN := Lib.hid hln; have HSP := Lib.hid hsp; have HNIL := Lib.hid hnil; have HG := Lib.hid hg
    clear hs hln hsp hnil
    by_cases hkl : k < a.length
    · obtain ⟨ba, oa, ra, rfl, -, hba, hRa, hca⟩ := HA.out k a[k] (List.getElem?_eq_getElem hkl)
      obtain ⟨hbl', c0, c1, c2⟩ := spotAt hRa hba hg hca
      have HT := Lib.hid (show a.take (k + 1) = a.take k ++ [a[k]] from List.take_succ_eq_append_getElem hkl)
      clear hRa hba hca hg
      generalize a[k] = x at *
      go_wp2_with fail
      refine (ref20PutS (S := fun _ => False) (n0 := 0) x HSP.out (Nat.zero_le _) HS2.out HNIL.out (by have := HLN.out; omega)).mono ?_
      rintro e w3 ⟨v3, L3, rfl, h1, h2, h3, h5, h4⟩
      have H1 := Lib.hid h1; have H2 := Lib.hid h2; have H3 := Lib.hid h3; have H5 := Lib.hid h5; have HG3 := Lib.hid (HG.out.step h4)
      obtain ⟨_, _, rfl, _⟩ := SlR.open h3
      clear h1 h2 h3 h4 h5 c0 c1 c2 hbl'
      go_wp2
      go_roundg (a.length - (k + 1))
      case measure => omega
      case rel => exact ⟨k + 1, L3, by omega, rfl, by go_num, by rw [HT.out]; exact H1.out, by have := H2.out; have := HLN.out; omega, H3.out, fun h => absurd h H5.out, HG3.out⟩
    · have hkk : a.take k = a := List.take_of_length_le (by omega)
      rw [hkk] at HS2
      have hka : k = a.length := by omega
      subst hka
      clear hg hkk hkl
      obtain ⟨wo, hwo⟩ : ∃ wo, wo = wr := ⟨_, rfl⟩
      subst hwo
      go_wp2
      go_loopg [5, 7] b.length (fun g ov iv wr => ∃ (j : Nat) (L : List PSpot), j ≤ b.length ∧ g = b.length - j ∧ iv = .int .i64 j ∧ SpSet L (a ++ b.take j) ∧ L.length ≤ a.length + j ∧ SpotsR (fun b => False ∨ 0 ≤ b) wr ov L ∧ (L = [] → ov = .slice none 0 0) ∧ Grow w wr)
      case atStart => exact ⟨0, L, by omega, by omega, rfl, by simpa using HS2.out, by have := HLN.out; omega, HSP.out, HNIL.out, HG.out⟩
      case round =>
        obtain ⟨j, Lj, hj, rfl, rfl, hs, hln, hsp, hnil, hg⟩ := hrel
        obtain ⟨aJ, cJ, rfl, -, -, -⟩ := SlR.open hsp
        have HS3 := Lib.hid hs; have HLN3 := Lib.hid hln; have HSP3 := Lib.hid hsp; have HNIL3 := Lib.hid hnil; have HG3 := Lib.hid hg
        clear hs hln hsp hnil
        by_cases hjl : j < b.length
        · obtain ⟨bb, ob, rb, rfl, -, hbb, hRb, hcb⟩ := HB.out j b[j] (List.getElem?_eq_getElem hjl)
          obtain ⟨hbl', c0, c1, c2⟩ := spotAt hRb hbb hg hcb
          have HT := Lib.hid (show b.take (j + 1) = b.take j ++ [b[j]] from List.take_succ_eq_append_getElem hjl)
          clear hRb hbb hcb hg
          generalize b[j] = x at *
          go_wp2_with fail
          refine (ref20PutS (S := fun _ => False) (n0 := 0) x HSP3.out (Nat.zero_le _) HS3.out HNIL3.out (by have := HLN3.out; omega)).mono ?_
          rintro e w4 ⟨v4, L4, rfl, h1, h2, h3, h5, h4⟩
          have H1 := Lib.hid h1; have H2 := Lib.hid h2; have H3 := Lib.hid h3; have H5 := Lib.hid h5; have HG4 := Lib.hid (HG3.out.step h4)
          obtain ⟨_, _, rfl, _⟩ := SlR.open h3
          clear h1 h2 h3 h4 h5 c0 c1 c2 hbl'
          go_wp2
          go_roundg (b.length - (j + 1))
          case measure => omega
          case rel => exact ⟨j + 1, L4, by omega, rfl, by go_num, by rw [HT.out, ← List.append_assoc]; exact H1.out, by have := H2.out; have := HLN3.out; omega, H3.out, fun h => absurd h H5.out, HG4.out⟩
        · have hkk : b.take j = b := List.take_of_length_le (by omega)
          rw [hkk] at HS3
          clear hg
          go_wp2
          go_ret
          exact ⟨_, Lj, rfl, HS3.out, SlR.sub HSP3.out (fun _ _ => trivial) (fun _ _ _ h => h), HG3.out⟩
end Go.Hg

namespace Go.Hg
open Go.RowKit Go.ChangeShapes Go.WideShapes Go.Deep Go.Proofs
variable {H : Type} {enc : TypeId × Value → H} {W : World} {base : Nat} {sp : Nat → Bool} {held : Bool}

theorem cellsSpot : Tryz.prog.cellsOf 136 = 3 := by kernel_rfl
set_option maxRecDepth 100000 in
theorem openSpot {n : Nat} {cs : List Value} {x : DataW H × List MemPlace} (h : DataW.trod enc Tryz.prog W base sp held n 136 cs = some x) : ∃ o : PSpot, RSpot o cs := by
  obtain ⟨xs, m, -, -, hl, hsz, hf⟩ := DataW.trod_struct Tryz.underlying136 h
  rw [cellsSpot] at hl
  obtain ⟨c0, c1, c2, rfl⟩ := list3 hl
  obtain ⟨y0, h0⟩ := field_at hsz hf 0 rfl rfl cellsI rfl
  obtain ⟨y1, h1⟩ := field_at hsz hf 1 rfl rfl cellsStr rfl
  obtain ⟨y2, h2⟩ := field_at hsz hf 2 rfl rfl cellsStr rfl
  obtain ⟨a0, e0, -⟩ := DataW.trod_int Tryz.underlying3 h0
  obtain ⟨a1, e1, -⟩ := DataW.trod_string Tryz.underlying9 h1
  obtain ⟨a2, e2, -⟩ := DataW.trod_string Tryz.underlying9 h2
  simp at e0 e1 e2
  exact ⟨⟨a0, a1, a2⟩, by unfold RSpot; rw [e0, e1, e2]⟩
set_option maxRecDepth 100000 in
theorem openSpotsA {v : Value} {d : DataW H} {ps : List MemPlace} {r : Reach} {b0 : Nat} (hval : Value.okWide Tryz.prog W r b0 59 v) (h : DataW.Trod enc Tryz.prog W base sp held 59 v d ps) : ∃ l : List PSpot, SpotsR (fun _ => True) W v l := by
  obtain ⟨a0, len0, cap0, rfl⟩ := okWide_slice Tryz.underlying59 hval
  obtain ⟨n, hn⟩ := h
  obtain ⟨v', l, h1, h2⟩ := openListC RSpot Tryz.underlying59 cellsSpot (by omega) (fun _ _ _ h => openSpot h) hn
  have e : [Value.slice a0 len0 cap0] = [v'] := h1
  simp only [List.cons.injEq, and_true] at e
  exact ⟨l, e ▸ h2⟩
end Go.Hg
