/- law20.DirtyConcerns: true. Conditions: those that each theorem names. -/
import Derived.WalkKit
import Derived.WalkSpells
import Derived.WalkLawsBesides
import Derived.Lib.Hide
import Derived.BigQuiet
import Derived.Deep.LoopGhost
import Derived.Test.YtanijffgogpmdaaGreatRows
import Derived.Lib.SliceRun
import Derived.WideMake
import Derived.Deep.RegionLaw
import Derived.Lib.Overlaps
import Derived.Deep.RegionHeld3
import Derived.Laws.ResultCell
import Derived.Laws.EntriesVeiled
import Derived.Maps.OwnOps
import Derived.Maps.OwnSet
import Derived.Carry
import Derived.Lib.SlKeysI
import Derived.Maps.RangeWalk
import Derived.Lib.SlMapFilter
import Derived.Deep.DeepCutAuto
import Derived.Shelf.SlIterI.Nil
import Derived.Shelf.SortM.Plain
import Derived.Shelf.SortM.SortNone
import Derived.Shelf.SlMaps.DeleteFunc
import Derived.Shelf.SlSortCmp.WholeK
import Derived.Shelf.SlIterI.Collect
import Derived.RangeFuncBox
import Derived.RangeFuncLeaves
import Derived.RangeFuncWrites
import Derived.Maps.AppendAt
import Derived.Deep.CutBlock
import Derived.BigRegion
import Derived.Test.YtanijffgogpmdaaGreatDirN
import Derived.Test.YtanijffgogpmdaaGreatDirO
import Derived.Test.YtanijffgogpmdaaGreatDirP
import Derived.Test.YtanijffgogpmdaaGreatDirR
import Derived.Test.YtanijffgogpmdaaGreatDirS
import Derived.Test.YtanijffgogpmdaaGreatDirT
import Derived.Test.YtanijffgogpmdaaGreatDirW
import Derived.Test.YtanijffgogpmdaaGreatDirAa
import Derived.Test.YtanijffgogpmdaaGreatDirAc
import Derived.Test.YtanijffgogpmdaaGreatDirAd
import Derived.Test.YtanijffgogpmdaaGreatDirAk
namespace Go.Hg
open Go.RowKit Go.Proofs

set_option maxRecDepth 100000 in
set_option maxHeartbeats 16000000 in
theorem law20Concerns (T1 T2 T3 : Nat → Prop) (nv ev rv iv : Value) (c : PCat) (v1 v2 : Value) (a b : List PSpot) (w : World) (hc : CatR T1 w nv ev rv iv c) (ha : SpotsR T2 w v1 a) (hb : SpotsR T3 w v2 b) (hwf : ∀ r ∈ c.rules, (Lit.int .i64 r.id).wf = true) :
    Calls Tryz.prog 9 #[c.arg nv ev rv iv, v1, v2] w fun e w' => e = .returned (.bool true) ∧ Grow w w' := by
  have HC := Lib.hid hc; have HA := Lib.hid ha; have HB := Lib.hid hb; have HWF := Lib.hid hwf
  obtain ⟨na, nc, ea, ec, ra, rc, ia, ic, rfl, rfl, rfl, rfl⟩ := hc.slices
  obtain ⟨_, _, rfl, -, -, -⟩ := SlR.open ha
  obtain ⟨_, _, rfl, -, -, -⟩ := SlR.open hb
  have HW := Lib.hid (show ∀ o1, Grow w (w.alloc o1) from fun o1 => (Grow.rfl' w).allocd o1)
  have HBX := Lib.hid (fun w' => catCellAt (w := w.alloc (.cells #[.slice na c.nodes.length nc, .slice ea c.edges.length ec, .slice ra c.rules.length rc, .slice ia c.indexes.length ic, .int .i64 c.nextRule] 52)) (w' := w') (c := c) (heap_alloc_new w _))
  clear hc ha hb hwf
  go_enter Tryz.func9, Tryz.ntmps9
  go_wp2_with fail
  refine (keepLargeCat T1 _ _ _ _ c _ (HC.out.grow (HW.out _))).mono ?_
  rintro e w2 ⟨b2, rfl, hlen, g2⟩
  have HG2 := Lib.hid ((HW.out _).step g2); have HLEN := Lib.hid hlen
  have HR := Lib.hid (show ∀ w', Grow w2 w' → CatCell w' w.heap.size _ _ _ _ _ from fun w' g => HBX.out w' (g2.step g))
  clear g2 hlen HBX
  cases b2
  rotate_left 1
  · go_wp2_with fail
    refine (law20Wakes w2).mono ?_
    rintro e w3 ⟨rfl, gz⟩
    have HGZ := Lib.hid (HG2.out.step gz)
    clear gz
    go_wp2
    go_ret
    exact ⟨rfl, HGZ.out⟩
  have HLE := Lib.hid (HLEN.out rfl)
  clear HLEN
  go_wp2_with fail
  refine (law20Fair T2 _ a w2 (HA.out.growS HG2.out)).mono ?_
  rintro e w3 ⟨rfl, g3⟩
  have HG3 := Lib.hid (HG2.out.step g3); have HG23 := Lib.hid g3
  clear g3
  cases hf : fairSpots a
  · clear hf
    go_wp2_with fail
    refine (law20Wakes w3).mono ?_
    rintro e w4 ⟨rfl, gz⟩
    have HGZ := Lib.hid (HG3.out.step gz)
    clear gz
    go_wp2
    go_ret
    exact ⟨rfl, HGZ.out⟩
  have HSLa := Lib.hid (show a.length ≤ 100 by unfold fairSpots at hf; simp at hf; exact hf.2)
  clear hf
  go_wp2_with fail
  refine (law20Fair T3 _ b w3 (HB.out.growS HG3.out)).mono ?_
  rintro e w4 ⟨rfl, g4⟩
  have HG4 := Lib.hid (HG3.out.step g4); have HG24 := Lib.hid (HG23.out.step g4)
  clear g4
  cases hf : fairSpots b
  · clear hf
    go_wp2_with fail
    refine (law20Wakes w4).mono ?_
    rintro e w5 ⟨rfl, gz⟩
    have HGZ := Lib.hid (HG4.out.step gz)
    clear gz
    go_wp2
    go_ret
    exact ⟨rfl, HGZ.out⟩
  have HSL := Lib.hid (show a.length ≤ 100 ∧ b.length ≤ 100 by unfold fairSpots at hf; simp at hf; exact ⟨HSLa.out, hf.2⟩)
  clear hf HSLa
  have HA4 := Lib.hid (show ∀ o1, Grow w (w4.alloc o1) ∧ Grow w4 (w4.alloc o1) from fun o1 => ⟨HG4.out.allocd o1, (Grow.rfl' w4).allocd o1⟩)
  go_wp2_with (at_builtin; go_must (refine wpList_append_L rfl (.tmp 22) (.tmp 23) 59 rfl rowSpot Tryz.underlying59 w4.heap.size _ rfl _ rfl a (HA.out.growS (HA4.out _).1) rspotOk (by simp) (by have := HSL.out; unfold maxLen; omega) (by have := HSL.out; omega) ?_))
  intro v5 wa5 hown5 g5
  obtain ⟨a5, c5, rfl, -, -⟩ := hown5.isSlice
  have HX5 := Lib.hid hown5.toR
  have HGa5 := Lib.hid ((HA4.out _).1.step g5); have HG4a5 := Lib.hid ((HA4.out _).2.step g5)
  clear hown5 g5
  have HA5 := Lib.hid (show ∀ o1, Grow w (wa5.alloc o1) ∧ Grow wa5 (wa5.alloc o1) from fun o1 => ⟨HGa5.out.allocd o1, (Grow.rfl' wa5).allocd o1⟩)
  go_wp2_with (at_builtin; go_must (refine wpList_append_L rfl (.tmp 25) (.tmp 26) 59 rfl rowSpot Tryz.underlying59 wa5.heap.size _ rfl _ rfl b (HB.out.growS (HA5.out _).1) rspotOk (by simp) (by have := HSL.out; unfold maxLen; omega) (by have := HSL.out; omega) ?_))
  intro v6 w5 hown6 g6
  obtain ⟨a6, c6, rfl, -, -⟩ := hown6.isSlice
  have HY := Lib.hid hown6.toR
  have HX := Lib.hid (HX5.out.growS ((HA5.out _).2.step g6))
  have HG5 := Lib.hid ((HA5.out _).1.step g6)
  have HSS := Lib.hid (show ∀ w', Grow w5 w' → CatCell w' w.heap.size _ _ _ _ _ from fun w' g => HR.out w' (HG24.out.step (HG4a5.out.step (((HA5.out _).2.step g6).step g))))
  clear hown6 g6 HX5 HA4 HA5 HR
  have HG_D := Lib.hid (show Grow w5 w5.drew from (Grow.rfl' w5).drewd)
  have tok0 : True := trivial
  have tok1 : True := trivial
  have tok2 : True := trivial
  have tok3 : True := trivial
  have tok4 : True := trivial
  have tok5 : True := trivial
  have tok6 : True := trivial
  have tok7 : True := trivial
  have tok8 : True := trivial
  have tok9 : True := trivial
  have tok10 : True := trivial
  have tok11 : True := trivial
  have tok12 : True := trivial
  have tok13 : True := trivial
  have tok14 : True := trivial
  go_wp2_with fail
  go_region_held3 (fun w' => CatCell w' w.heap.size (.slice na c.nodes.length nc) (.slice ea c.edges.length ec) (.slice ra c.rules.length rc) (.slice ia c.indexes.length ic) c) (first | exact (HSS.out _ HG_e.out) | exact (HSS.out _ HG_d.out) | exact (HSS.out _ HG_c.out) | exact (HSS.out _ HG_b.out) | exact (HSS.out _ HG_a.out) | exact (HSS.out _ HG_9.out) | exact (HSS.out _ HG_8.out) | exact (HSS.out _ HG_7.out) | exact (HSS.out _ HG_6.out) | exact (HSS.out _ HG_5.out) | exact (HSS.out _ HG_4.out) | exact (HSS.out _ HG_3.out) | exact (HSS.out _ HG_2.out) | exact (HSS.out _ HG_1.out) | exact (HSS.out _ HG_0.out) | exact (HSS.out _ HG_D.out)) (first | (have _t := tok0; go_at_call 43; (refine (dirtyJoin _ _ _ _ a b _ (HX.out.growS HG_D.out) (HY.out.growS HG_D.out) (by have := HSL.out; omega) (by have := HSL.out; omega)).mono ?_); rintro e wx ⟨vx, Lj, rfl, hS, hv, g⟩; have HJ := Lib.hid hS; have HO_0 := Lib.hid hv; have HG_0 := Lib.hid (HG_D.out.step g); obtain ⟨_, _, rfl, -, -, -⟩ := SlR.open hv; clear hS hv g; clear tok0 _t) | (have _t := tok1; go_at_call 32; (refine (law20Own T2 _ a _ (HA.out.growS (HG5.out.step HG_0.out)) (by have := HSL.out; omega)).mono ?_); rintro e wx ⟨vx, rfl, hv, g⟩; have HO_1 := Lib.hid hv; have HG_1 := Lib.hid (HG_0.out.step g); have HS_1 := Lib.hid g; obtain ⟨_, _, rfl, -, -, -⟩ := SlR.open hv; clear hv g; clear tok1 _t) | (have _t := tok2; go_at_call 32; (refine (law20Own T3 _ b _ (HB.out.growS (HG5.out.step HG_1.out)) (by have := HSL.out; omega)).mono ?_); rintro e wx ⟨vx, rfl, hv, g⟩; have HO_2 := Lib.hid hv; have HG_2 := Lib.hid (HG_1.out.step g); have HS_2 := Lib.hid g; obtain ⟨_, _, rfl, -, -, -⟩ := SlR.open hv; clear hv g; clear tok2 _t) | (have _t := tok3; go_at_call 44; (refine (ref20Join _ _ _ _ a b _ (HO_1.out.growS HS_2.out) HO_2.out (by have := HSL.out; omega) (by have := HSL.out; omega)).mono ?_); rintro e wx ⟨vx, Lj2, rfl, hS, hv, g⟩; obtain rfl := HJ.out.uniq hS; have HO_3 := Lib.hid hv; have HG_3 := Lib.hid (HG_2.out.step g); have HS_3 := Lib.hid ((HS_1.out.step HS_2.out).step g); obtain ⟨_, _, rfl, -, -, -⟩ := SlR.open hv; clear hS hv g; clear tok3 _t) | (have _t := tok4; go_at_call 40; (refine (law20Same _ _ _ _ _ _ (HO_0.out.growS HS_3.out) HO_3.out).mono ?_); rintro e wx ⟨rfl, g⟩; have HG_4 := Lib.hid (HG_3.out.step g); have HS_4 := Lib.hid g; clear g; clear tok4 _t) | (have _t := tok5; go_at_call 28; (refine (keepCopyCat T1 _ _ _ _ c _ (HC.out.grow (HG5.out.step HG_4.out)) HLE.out).mono ?_); rintro e wx ⟨nv', ev', rv', iv', rfl, hc', g⟩; have HC' := Lib.hid hc'; obtain ⟨na', nc', ea', ec', ra', rc', ia', ic', rfl, rfl, rfl, rfl⟩ := hc'.slices; have HG_5 := Lib.hid (HG_4.out.step g); clear hc' g; clear tok5 _t) | (have _t := tok6; go_at_call 39; (refine (dirtyConcerned _ _ _ _ _ _ _ _ c.rules a _ HC'.out.2.2.1 (HX.out.growS HG_5.out) (by have := HLE.out.2.2.1; omega) HWF.out ⟨⟨_, _, _, rfl⟩, ⟨_, _, _, rfl⟩, ⟨_, _, _, rfl⟩, ⟨_, rfl⟩⟩).mono ?_); rintro e wx ⟨vx, Lc, rfl, hS, hv, g⟩; have HK := Lib.hid hS; have HO_6 := Lib.hid hv; have HG_6 := Lib.hid (HG_5.out.step g); obtain ⟨_, _, rfl, -, -, -⟩ := SlR.open hv; clear hS hv g; clear tok6 _t) | (have _t := tok7; go_at_call 32; (refine (law20Own T2 _ a _ (HA.out.growS (HG5.out.step HG_6.out)) (by have := HSL.out; omega)).mono ?_); rintro e wx ⟨vx, rfl, hv, g⟩; have HO_7 := Lib.hid hv; have HG_7 := Lib.hid (HG_6.out.step g); have HS_7 := Lib.hid g; obtain ⟨_, _, rfl, -, -, -⟩ := SlR.open hv; clear hv g; clear tok7 _t) | (have _t := tok8; go_at_call 46; (refine (ref20Concerned _ _ _ _ _ _ _ _ c.rules a _ (HC.out.2.2.1.growS (HG5.out.step HG_7.out)) HO_7.out (by have := HLE.out.2.2.1; omega) ⟨⟨_, _, _, rfl⟩, ⟨_, _, _, rfl⟩, ⟨_, _, _, rfl⟩, ⟨_, rfl⟩⟩).mono ?_); rintro e wx ⟨vx, Lc2, rfl, hS, hv, g⟩; obtain rfl := HK.out.uniq hS (fun _ => Iff.rfl); have HO_8 := Lib.hid hv; have HG_8 := Lib.hid (HG_7.out.step g); have HS_8 := Lib.hid (HS_7.out.step g); obtain ⟨_, _, rfl, -, -, -⟩ := SlR.open hv; clear hS hv g; clear tok8 _t) | (have _t := tok9; go_at_call 45; (refine (keepInts _ _ _ _ _ _ (HO_6.out.growS HS_8.out) HO_8.out).mono ?_); rintro e wx ⟨rfl, g⟩; have HG_9 := Lib.hid (HG_8.out.step g); clear g; clear tok9 _t) | (have _t := tok10; go_at_call 32; (refine (law20Own T2 _ a _ (HA.out.growS (HG5.out.step HG_9.out)) (by have := HSL.out; omega)).mono ?_); rintro e wx ⟨vx, rfl, hv, g⟩; have HO_a := Lib.hid hv; have HG_a := Lib.hid (HG_9.out.step g); have HS_a := Lib.hid g; obtain ⟨_, _, rfl, -, -, -⟩ := SlR.open hv; clear hv g; clear tok10 _t) | (have _t := tok11; go_at_call 40; (refine (law20Same _ _ _ _ _ _ (HX.out.growS HG_a.out) HO_a.out).mono ?_); rintro e wx ⟨rfl, g⟩; have HG_b := Lib.hid (HG_a.out.step g); have HS_b := Lib.hid g; clear g; clear tok11 _t) | (have _t := tok12; go_at_call 32; (refine (law20Own T3 _ b _ (HB.out.growS (HG5.out.step HG_b.out)) (by have := HSL.out; omega)).mono ?_); rintro e wx ⟨vx, rfl, hv, g⟩; have HO_c := Lib.hid hv; have HG_c := Lib.hid (HG_b.out.step g); have HS_c := Lib.hid g; obtain ⟨_, _, rfl, -, -, -⟩ := SlR.open hv; clear hv g; clear tok12 _t) | (have _t := tok13; go_at_call 40; (refine (law20Same _ _ _ _ _ _ (HY.out.growS HG_c.out) HO_c.out).mono ?_); rintro e wx ⟨rfl, g⟩; have HG_d := Lib.hid (HG_c.out.step g); have HS_d := Lib.hid g; clear g; clear tok13 _t) | (have _t := tok14; go_at_call 37; (refine (law20Wakes _).mono ?_); rintro e wx ⟨rfl, g⟩; have HG_e := Lib.hid (HG_d.out.step g); clear g; clear tok14 _t))
  all_goals go_wp2
  all_goals go_ret
  all_goals exact ⟨rfl, HG5.out.step HG_e.out⟩
end Go.Hg
