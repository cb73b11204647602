/- ref20.Spots, ref20.Join: spots in order; law20.DirtySpots: true. Conditions: those that each theorem names. -/
import Derived.WalkKit
import Derived.WalkSpells
import Derived.WalkLawsBesides
import Derived.Lib.Hide
import Derived.BigQuiet
import Derived.Deep.LoopGhost
import Derived.Test.YtanijffgogpmdaaGreatRows
import Derived.Lib.SliceRun
import Derived.WideMake
import Derived.Deep.RegionLaw
import Derived.Lib.Overlaps
import Derived.Deep.RegionHeld3
import Derived.Laws.ResultCell
import Derived.Laws.EntriesVeiled
import Derived.Maps.OwnOps
import Derived.Maps.OwnSet
import Derived.Carry
import Derived.Lib.SlKeysI
import Derived.Maps.RangeWalk
import Derived.Lib.SlMapFilter
import Derived.Deep.DeepCutAuto
import Derived.Shelf.SlIterI.Nil
import Derived.Shelf.SortM.Plain
import Derived.Shelf.SortM.SortNone
import Derived.Shelf.SlMaps.DeleteFunc
import Derived.Shelf.SlSortCmp.WholeK
import Derived.Shelf.SlIterI.Collect
import Derived.RangeFuncBox
import Derived.RangeFuncLeaves
import Derived.RangeFuncWrites
import Derived.Maps.AppendAt
import Derived.Deep.CutBlock
import Derived.BigRegion
import Derived.Test.YtanijffgogpmdaaGreatDirN
import Derived.Test.YtanijffgogpmdaaGreatDirO
import Derived.Test.YtanijffgogpmdaaGreatDirP
import Derived.Test.YtanijffgogpmdaaGreatDirQ
import Derived.Test.YtanijffgogpmdaaGreatDirS
import Derived.Test.YtanijffgogpmdaaGreatDirT
import Derived.Test.YtanijffgogpmdaaGreatDirU
import Derived.Test.YtanijffgogpmdaaGreatDirV
import Derived.Test.YtanijffgogpmdaaGreatDirAa
import Derived.Test.YtanijffgogpmdaaGreatDirAb
import Derived.Test.YtanijffgogpmdaaGreatDirAh
namespace Go.Hg
open Go.RowKit Go.Proofs

set_option maxRecDepth 100000 in
set_option maxHeartbeats 8000000 in
theorem ref20Spots (S S2 : Nat → Prop) (B : Nat) (G : PGraph) (lv : Value) (l : List POp) (w : World) (h : GraphRd 55 S w B G) (hi : GInv G) (hd : DisjG G) (hl : OpsR S2 w lv l) (hlen : l.length ≤ 60) (hE : G.edges.length ≤ 200) :
    Calls Tryz.prog 41 #[.pointer (some ⟨B, 0, none⟩), lv] w fun e w' => ∃ v L, e = .returned v ∧ SpSet L (spotsG G l) ∧ SpotsR (fun _ => True) w' v L ∧ Grow w w' := by
  obtain ⟨aa, ca, rfl, hal, hac, hA⟩ := SlR.open hl
  unfold maxLen at hac
  have HA := Lib.hid hA; have HOK := Lib.hid h; have HI := Lib.hid hi; have HDJ := Lib.hid hd; have HLEN := Lib.hid hlen; have HE := Lib.hid hE
  clear hl hA h hi hd hlen hE
  go_enter Tryz.func41, Tryz.ntmps41
  go_wp2_with fail
  refine (refCopy S B G _ HOK.out (by have := HI.out.items; omega) (by have := HI.out.items; omega) (fun x hx => by have := (HI.out.nodesB x hx).2.2; omega) (fun x hx => by have := (HI.out.edgesB x hx).2.2; omega)).mono ?_
  rintro e w2 ⟨B2, rfl, hok2, g2⟩
  have HG2 := Lib.hid g2
  have HP2 := Lib.hid hok2.cut
  clear g2 hok2
  go_wp2
  go_loopg [5, 6] l.length (fun g ov iv wr => ∃ (k : Nat) (L : List PSpot) (SG : Nat → Prop), k ≤ l.length ∧ g = l.length - k ∧ iv = .int .i64 k ∧ SpSet L (spotsG G (l.take k)) ∧ L.length ≤ k * 262 ∧ SpotsR (fun b => w.heap.size ≤ b ∧ ¬ SG b ∧ b < wr.heap.size) wr ov L ∧ (L = [] → ov = .slice none 0 0) ∧ GraphOk 55 SG wr B2 (runG G (l.take k)) ∧ (∀ b, SG b → w.heap.size ≤ b ∧ b < wr.heap.size) ∧ Grow w wr)
  case atStart => exact ⟨0, [], _, by omega, by omega, rfl, SpSet.nil, by simp, (OwnL.nil w2 140 3 RSpot).toSl (by simp), fun _ => rfl, HP2.out, fun b h => h, HG2.out⟩
  case round =>
    obtain ⟨k, L, SG, hk, rfl, rfl, hs, hln, hsp, hnil, hok, hsg, hg⟩ := hrel
    obtain ⟨aK, cK, rfl, -, -, -⟩ := SlR.open hsp
    have HS2 := Lib.hid hs; have HLN := Lib.hid hln; have HSP := Lib.hid hsp; have HNIL := Lib.hid hnil; have HOKr := Lib.hid hok; have HSG := Lib.hid hsg; have HG := Lib.hid hg
    clear hs hln hsp hnil hok hsg
    by_cases hkl : k < l.length
    · obtain ⟨ba, oa, ra, rfl, hSa, hba, hRa, hca⟩ := HA.out k l[k] (List.getElem?_eq_getElem hkl)
      obtain ⟨hbl, c0, c1, c2, c3, c4, c5, c6, c7, c8, c9⟩ := opCells hRa hba hg hca
      have HT := Lib.hid (show l.take (k + 1) = l.take k ++ [l[k]] from List.take_succ_eq_append_getElem hkl)
      have HSN := Lib.hid (show spotsG G (l.take (k + 1)) = spotsG G (l.take k) ++ (if mayG (catO l[k]) l[k] (runG G (l.take k)) = 0 then noteG (runG G (l.take k)) l[k] else []) by rw [HT.out, spotsG_snoc])
      have HRN := Lib.hid (show runG G (l.take (k + 1)) = stepG (catO l[k]) l[k] (runG G (l.take k)) by rw [HT.out, runG_snoc])
      have HIK := Lib.hid (runG_inv HI.out (l.take k))
      have HDK := Lib.hid (disj_run HI.out HDJ.out (l.take k))
      have HEK := Lib.hid (show (runG G (l.take k)).edges.length ≤ 260 by
        have h1 := runG_edges G (l.take k)
        rw [List.length_take] at h1
        have := HE.out; have := HLEN.out
        omega)
      have HLL := Lib.hid (show L.length ≤ 32768 by have := HLN.out; have := HLEN.out; omega)
      clear hRa hba hca hSa hg
      generalize l[k] = o at *
      generalize runG G (l.take k) = Gk at *
      generalize spotsG G (l.take k) = Mk at *
      obtain ⟨W5, hW5⟩ : ∃ W5, (((wr.alloc (.cells #[.int .i64 o.kind, .int .i64 o.id, .string o.typ, .int .i64 o.from_, .int .i64 o.to_, .string o.name, .int .i64 o.v.kind, .int .i64 o.v.n, .string o.v.s, .bool o.cascade] 44)).alloc (.cells #[.string o.typ] 9)).alloc (.cells #[.string o.typ] 9)).alloc (.cells #[.slice (some ⟨wr.heap.size + 1, 0, none⟩) 1 1, .slice (some ⟨wr.heap.size + 1 + 1, 0, none⟩) 1 1, .slice none 0 0, .slice none 0 0, .int .i64 0] 52) = W5 := ⟨_, rfl⟩
      have HG5 := Lib.hid (show Grow wr W5 by rw [← hW5]; exact ((((Grow.rfl' wr).allocd _).allocd _).allocd _).allocd _)
      have HOB := Lib.hid (show OpAt W5 wr.heap.size o by
        unfold OpAt
        rw [← hW5, ((((Grow.rfl' (wr.alloc _)).allocd _).allocd _).allocd _).heapEq (by simp)]
        exact heap_alloc_new wr _)
      have HC5 := Lib.hid (show CatR (fun b => wr.heap.size + 1 ≤ b) W5 (.slice (some ⟨wr.heap.size + 1, 0, none⟩) 1 1) (.slice (some ⟨wr.heap.size + 1 + 1, 0, none⟩) 1 1) (.slice none 0 0) (.slice none 0 0) (catO o) by
        have h1 := catOne (wr.alloc (.cells #[.int .i64 o.kind, .int .i64 o.id, .string o.typ, .int .i64 o.from_, .int .i64 o.to_, .string o.name, .int .i64 o.v.kind, .int .i64 o.v.n, .string o.v.s, .bool o.cascade] 44)) o.typ
        rw [World.size_alloc] at h1
        rw [← hW5]
        exact h1.grow ((Grow.rfl' _).allocd _))
      have HCB := Lib.hid (show CatAt W5 (wr.heap.size + 1 + 1 + 1) (.slice (some ⟨wr.heap.size + 1, 0, none⟩) 1 1) (.slice (some ⟨wr.heap.size + 1 + 1, 0, none⟩) 1 1) (.slice none 0 0) (.slice none 0 0) (catO o) by
        unfold CatAt
        have h1 := heap_alloc_new (((wr.alloc (.cells #[.int .i64 o.kind, .int .i64 o.id, .string o.typ, .int .i64 o.from_, .int .i64 o.to_, .string o.name, .int .i64 o.v.kind, .int .i64 o.v.n, .string o.v.s, .bool o.cascade] 44)).alloc (.cells #[.string o.typ] 9)).alloc (.cells #[.string o.typ] 9)) (.cells #[.slice (some ⟨wr.heap.size + 1, 0, none⟩) 1 1, .slice (some ⟨wr.heap.size + 1 + 1, 0, none⟩) 1 1, .slice none 0 0, .slice none 0 0, .int .i64 0] 52)
        rw [World.size_alloc, World.size_alloc, World.size_alloc] at h1
        rw [← hW5]
        exact h1)
      have HW5e := Lib.hid hW5
      clear hW5
      go_wp2_with fail
      rw [HW5e.out]
      clear HW5e c0 c1 c2 c3 c4 c5 c6 c7 c8 c9 hbl
      refine (refMay SG _ B2 Gk _ _ _ _ (catO o) o W5 (HOKr.out.grow HG5.out).rd HIK.out HC5.out).mono ?_
      rintro e w6 ⟨rfl, g6⟩
      have HG6 := Lib.hid g6; have HG6r := Lib.hid (HG5.out.step g6)
      clear g6
      by_cases hmay : mayG (catO o) o Gk = 0
      · rw [hmay]
        have HMAY := Lib.hid hmay
        clear hmay
        obtain ⟨hol, c0, c1, c2, c3, c4, c5, c6, c7, c8, c9⟩ := (HOB.out.grow HG6.out).at
        go_wp2_with fail
        refine (ref20Of SG B2 Gk (catO o) o (fun b => w.heap.size ≤ b ∧ ¬ SG b ∧ b < wr.heap.size) Mk L _ w6 (HOKr.out.grow HG6r.out).rd HIK.out HDK.out HMAY.out HS2.out (HSP.out.grow HG6r.out) HNIL.out HLL.out).mono ?_
        rintro e w7 ⟨v7, L7, rfl, q1, q2, q3, q4, q5⟩
        have Q1 := Lib.hid q1; have Q2 := Lib.hid q2; have Q3 := Lib.hid q3; have Q4 := Lib.hid q4
        obtain ⟨_, _, rfl, -, -, -⟩ := SlR.open q3
        have hob7 := HOB.out.grow (HG6.out.step q5)
        have hcb7 := HCB.out.grow (HG6.out.step q5)
        have HG7 := Lib.hid (HG6r.out.step q5); have HG67 := Lib.hid (HG6.out.step q5)
        clear hol c0 c1 c2 c3 c4 c5 c6 c7 c8 c9 q1 q2 q3 q4 q5
        obtain ⟨hol, c0, c1, c2, c3, c4, c5, c6, c7, c8, c9⟩ := hob7.at
        obtain ⟨hcl, d0, d1, d2, d3, d4⟩ := hcb7.at
        clear hob7 hcb7
        go_wp2_with fail
        refine (refDo SG _ B2 Gk _ _ _ _ (catO o) o w7 (HOKr.out.grow HG7.out) HIK.out (HC5.out.grow HG67.out)).mono ?_
        rintro e w8 ⟨rfl, hok8, md8⟩
        have HOK8 := Lib.hid hok8.cut
        have HG8 := Lib.hid ((HG.out.step HG7.out).modd md8 (fun b hb => (HSG.out b hb).1))
        have HSP8 := Lib.hid (show SpotsR (fun b => w.heap.size ≤ b ∧ ¬ ((SG b ∨ w7.heap.size ≤ b) ∧ b < w8.heap.size) ∧ b < w8.heap.size) w8 _ L7 from by
          have hs1 := HG.out.size
          have hs2 := HG6r.out.size
          refine SlR.sub ((SlR.cut Q3.out).modS md8 (fun b hb hS => ?_)) (fun b hb => ?_) (fun _ _ _ h => h)
          · have := (HSG.out b hS).2
            rcases hb.1 with h | h
            · exact h.2.1 hS
            · omega
          · have hb2 := hb.2
            have hn : ¬ SG b := fun hS => by
              have := (HSG.out b hS).2
              rcases hb.1 with h | h
              · exact h.2.1 hS
              · omega
            refine ⟨?_, fun h => ?_, Nat.lt_of_lt_of_le hb2 md8.size⟩
            · rcases hb.1 with h | h
              · exact h.1
              · omega
            · rcases h.1 with h | h
              · exact hn h
              · omega)
        have HSG8 := Lib.hid (show ∀ b, (SG b ∨ w7.heap.size ≤ b) ∧ b < w8.heap.size → w.heap.size ≤ b ∧ b < w8.heap.size from fun b hb => ⟨by
          have hs1 := HG.out.size
          have hs2 := HG7.out.size
          rcases hb.1 with h | h
          · exact (HSG.out b h).1
          · omega, hb.2⟩)
        clear hol c0 c1 c2 c3 c4 c5 c6 c7 c8 c9 hok8 md8 hcl d0 d1 d2 d3 d4
        go_wp2
        go_roundg (l.length - (k + 1))
        case measure => omega
        case rel => exact ⟨k + 1, L7, _, by omega, rfl, by go_num, by rw [HSN.out, if_pos HMAY.out]; exact Q1.out, by have := Q2.out; have := HEK.out; have := HLN.out; omega, HSP8.out, Q4.out, by rw [HRN.out]; exact HOK8.out, HSG8.out, HG8.out⟩
      · have hb : (mayG (catO o) o Gk != 0) = true := by simpa using hmay
        have HMAY := Lib.hid hmay
        clear hmay
        go_wp2
        go_roundg (l.length - (k + 1))
        case measure => omega
        case rel => exact ⟨k + 1, L, SG, by omega, rfl, by go_num, by rw [HSN.out, if_neg HMAY.out, List.append_nil]; exact HS2.out, by have := HLN.out; omega, SlR.sub (HSP.out.grow HG6r.out) (fun b hb => ⟨hb.1, hb.2.1, Nat.lt_of_lt_of_le hb.2.2 HG6r.out.size⟩) (fun _ _ _ h => h), HNIL.out, by rw [HRN.out]; unfold stepG; rw [if_neg HMAY.out]; exact HOKr.out.grow HG6r.out, fun b hb => ⟨(HSG.out b hb).1, Nat.lt_of_lt_of_le (HSG.out b hb).2 HG6r.out.size⟩, HG.out.step HG6r.out⟩
    · have hkk : l.take k = l := List.take_of_length_le (by omega)
      rw [hkk] at HS2
      clear hg
      go_wp2
      go_ret
      exact ⟨_, L, rfl, HS2.out, SlR.sub HSP.out (fun _ _ => trivial) (fun _ _ _ h => h), HG.out⟩

end Go.Hg

namespace Go.Hg
open Go.RowKit Go.Proofs

set_option maxRecDepth 100000 in
set_option maxHeartbeats 8000000 in
theorem law20Spots (T1 T2 : Nat → Prop) (v1 v2 : Value) (l1 l2 : List POp) (w : World) (hl1 : OpsR T1 w v1 l1) (hl2 : OpsR T2 w v2 l2) :
    Calls Tryz.prog 8 #[v1, v2] w fun e w' => e = .returned (.bool true) ∧ Grow w w' := by
  have HL1 := Lib.hid hl1; have HL2 := Lib.hid hl2
  have HW0 := Lib.hid (Grow.rfl' w)
  obtain ⟨_, _, rfl, -, -, -⟩ := SlR.open hl1
  obtain ⟨aL, cL, rfl, hLc, hLm, -⟩ := SlR.open hl2
  unfold maxLen at hLm
  clear hl1 hl2
  go_enter Tryz.func8, Tryz.ntmps8
  go_wp2_with fail
  refine (lawMade T1 _ l1 _ (HL1.out.growS HW0.out)).mono ?_
  intro e w2 h2
  rcases h2 with ⟨-, rfl, g2⟩ | ⟨-, B1, B2, rfl, hpr⟩
  · have HG2 := Lib.hid (Grow.step HW0.out g2)
    clear g2
    go_wp2_with fail
    refine (law20Wakes w2).mono ?_
    rintro e w3 ⟨rfl, gz⟩
    have HGZ := Lib.hid (HG2.out.step gz)
    clear gz
    go_wp2
    go_ret
    exact ⟨rfl, HGZ.out⟩
  have hmo := madeOk l1
  generalize madeG l1 = G at *
  have HMO := Lib.hid hmo
  obtain ⟨S1, S2, hok1, hok2, -, hs1, hs2, g2⟩ := hpr
  have HOK1 := Lib.hid hok1; have HOK2 := Lib.hid hok2
  have HG2 := Lib.hid (Grow.step HW0.out g2)
  have HSB := Lib.hid (show ∀ b, S1 b → w.heap.size ≤ b from fun b hb => Nat.le_trans (show Grow w _ from HW0.out).size (hs1 b hb).1)
  clear hmo hok1 hok2 hs1 hs2 g2
  go_wp2_with fail
  refine (lawFair _ _ l2 w2 (HL2.out.growS HG2.out)).mono ?_
  rintro e w3 ⟨rfl, g3⟩
  have HG23 := Lib.hid g3; have HG3 := Lib.hid (HG2.out.step g3)
  clear g3
  cases hf : fairOps l2
  · clear hf
    go_wp2_with fail
    refine (law20Wakes w3).mono ?_
    rintro e w4 ⟨rfl, gz⟩
    have HGZ := Lib.hid (HG3.out.step gz)
    clear gz
    go_wp2
    go_ret
    exact ⟨rfl, HGZ.out⟩
  clear hf
  by_cases h60 : 60 < l2.length
  · have hb60 : decide ((60 : Int) < (l2.length : Int)) = true := by simp; omega
    clear h60
    go_wp2_with fail
    refine (law20Wakes w3).mono ?_
    rintro e w4 ⟨rfl, gz⟩
    have HGZ := Lib.hid (HG3.out.step gz)
    clear gz
    go_wp2
    go_ret
    exact ⟨rfl, HGZ.out⟩
  have hb60 : decide ((60 : Int) < (l2.length : Int)) = false := by simp; omega
  have HLEN := Lib.hid (show l2.length ≤ 60 by omega)
  clear h60
  have HA3 := Lib.hid (show ∀ o1, Grow w (w3.alloc o1) ∧ Grow w3 (w3.alloc o1) from fun o1 => ⟨HG3.out.allocd o1, (Grow.rfl' w3).allocd o1⟩)
  go_wp2_with (at_builtin; go_must (refine wpList_append_L rfl (.tmp 28) (.tmp 29) 22 rfl rowOp Tryz.underlying22 w3.heap.size _ rfl _ rfl l2 (HL2.out.growS (HA3.out _).1) ropOk (by simp) (by have := HLEN.out; unfold maxLen; omega) (by have := HLEN.out; omega) ?_))
  intro v4 w4 hown4 g4
  obtain ⟨a4, c4, rfl, -, -⟩ := hown4.isSlice
  have HIN := Lib.hid hown4.toR
  have HG4 := Lib.hid ((HA3.out _).1.step g4); have HG34 := Lib.hid ((HA3.out _).2.step g4)
  clear hown4 g4
  go_wp2_with fail
  refine (dirtySpots S1 _ B1 G _ l2 w4 (HOK1.out.grow (HG23.out.step HG34.out)) HMO.out.1 HIN.out HLEN.out (by have := HMO.out.2.2.2; omega)).mono ?_
  rintro e w5 ⟨v5, L5, rfl, hS5, hv5, g5⟩
  have HS5 := Lib.hid hS5; have HV5 := Lib.hid hv5
  have HG5 := Lib.hid (HG4.out.step g5); have HG45 := Lib.hid g5
  have HG25 := Lib.hid ((HG23.out.step HG34.out).step g5)
  obtain ⟨_, _, rfl, -, -, -⟩ := SlR.open hv5
  clear hS5 hv5 g5
  go_wp2_with fail
  refine (ref20Spots S2 _ B2 G _ l2 w5 (HOK2.out.grow HG25.out).rd HMO.out.1 HMO.out.2.2.1 (HL2.out.growS HG5.out) HLEN.out (by have := HMO.out.2.2.2; omega)).mono ?_
  rintro e w6 ⟨v6, L6, rfl, hS6, hv6, g6⟩
  obtain rfl := HS5.out.uniq hS6
  have HV6 := Lib.hid hv6
  have HG6 := Lib.hid (HG5.out.step g6); have HG56 := Lib.hid g6
  obtain ⟨_, _, rfl, -, -, -⟩ := SlR.open hv6
  clear hS6 hv6 g6
  go_wp2_with fail
  refine (law20Same _ _ _ _ _ w6 (HV5.out.grow HG56.out) HV6.out).mono ?_
  rintro e w7 ⟨rfl, g7⟩
  have HG7 := Lib.hid (HG6.out.step g7); have HG27 := Lib.hid ((HG25.out.step HG56.out).step g7); have HG47 := Lib.hid ((HG45.out.step HG56.out).step g7)
  clear g7
  go_wp2_with fail
  refine (lawSame S1 S2 B1 B2 G w7 (HOK1.out.grow HG27.out) (HOK2.out.grow HG27.out) HMO.out.1).mono ?_
  rintro e w8 ⟨rfl, g8⟩
  have HG8 := Lib.hid (HG7.out.step g8); have HG48 := Lib.hid (HG47.out.step g8)
  clear g8
  go_wp2_with fail
  refine (keepOps _ _ _ _ l2 w8 (HIN.out.growS HG48.out) (HL2.out.growS HG8.out)).mono ?_
  rintro e w9 ⟨rfl, g9⟩
  have HG9 := Lib.hid (HG8.out.step g9)
  clear g9
  go_wp2_with fail
  refine (dirtySpotsNil w9 _ _ _).mono ?_
  rintro e wa ⟨rfl, rfl⟩
  go_wp2_with fail
  refine (law20Wakes w9).mono ?_
  rintro e wb ⟨rfl, gz⟩
  have HGZ := Lib.hid (HG9.out.step gz)
  clear gz
  go_wp2
  go_ret
  exact ⟨rfl, HGZ.out⟩
end Go.Hg
