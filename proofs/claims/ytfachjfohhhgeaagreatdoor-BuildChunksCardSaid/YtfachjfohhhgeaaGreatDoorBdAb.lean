/- The job's plain laws: it ends, it tells, it goes by its chunk; law18.Made as the laws behind it want it; small facts; A law's row: arguments of other types, opened; law23.BuildChunks: returns true. Conditions: those that each theorem names. -/
import Derived.WalkKit
import Derived.WalkSpells
import Derived.WalkLawsBesides
import Derived.Lib.Hide
import Derived.BigQuiet
import Derived.Deep.LoopGhost
import Derived.Test.YtfachjfohhhgeaaGreatDoorRows
import Derived.Lib.SliceRun
import Derived.WideMake
import Derived.Deep.RegionLaw
import Derived.Lib.Overlaps
import Derived.Deep.RegionHeld3
import Derived.Laws.ResultCell
import Derived.Shelf.SortM.Plain
import Derived.Shelf.SortM.SortNone
import Derived.Shelf.SlicesE.DeleteFunc
import Derived.Maps.OwnOps
import Derived.Maps.OwnSet
import Derived.Carry
import Derived.Lib.SlKeysI
import Derived.Shelf.SlIterI.Nil
import Derived.Conc.LoneCalls
import Derived.Conc.SmallLaws
import Derived.Deep.CutBlock
import Derived.Deep.DeepCutAuto
import Derived.Laws.EntriesVeiled
import Derived.Maps.RangeWalk
import Derived.Lib.SlMapFilter
import Derived.RowKit
import Derived.ReadAgain
import Derived.ChangeOld
import Derived.Deep.Slices
import Derived.OpenShut
import Derived.Test.YtfachjfohhhgeaaGreatDoorBdL
namespace Go.Hg

def addMan : POp := ⟨1, 0, sMan, 0, 0, ByteArray.empty, ⟨0, 0, ByteArray.empty⟩, false⟩
def chunkG (k : Nat) : PGraph := ⟨(List.range k).map fun (i : Nat) => ⟨(i : Int) + 1, sMan, []⟩, [], (k : Int) + 1⟩
theorem chunk_made (k : Nat) (hk : k ≤ 60) : madeG (List.replicate k addMan) = chunkG k := by
  have key : ∀ n, n ≤ k → madeK n (List.replicate k addMan) = chunkG n := by
    intro n
    induction n with
    | zero => intro _; rfl
    | succ n ih =>
      intro hn
      rw [madeK_succ (by simp; omega), ih (by omega)]
      simp only [List.getElem_replicate]
      have h1 : mayG typesC addMan (chunkG n) = 0 := by
        unfold mayG
        rw [if_pos (show addMan.kind = 1 from rfl), if_neg (by decide), if_neg]
        unfold fullG chunkG
        simp
        omega
      unfold stepG
      rw [if_pos h1]
      show addNodeG addMan (chunkG n) = _
      unfold addNodeG chunkG
      rw [List.range_succ, List.map_append]
      simp [addMan]
  rw [← madeK_full (.inl (by simp)) hk]
  exact key k (Nat.le_refl _)
theorem range_ge (k : Nat) (f : Nat) : ((List.range k).map fun (i : Nat) => (i : Int) + 1).filter (fun x => decide ((f : Int) + 1 ≤ x)) = (List.range (k - f)).map fun (i : Nat) => ((f + i : Nat) : Int) + 1 := by
  induction k with
  | zero => simp
  | succ k ih =>
    rw [List.range_succ, List.map_append, List.filter_append, ih]
    by_cases h : f ≤ k
    · rw [show k + 1 - f = (k - f) + 1 by omega, List.range_succ, List.map_append]
      congr 1
      simp only [List.map_cons, List.map_nil]
      rw [List.filter_cons_of_pos (by simp; omega), show f + (k - f) = k by omega]
      rfl
    · rw [show k + 1 - f = 0 by omega, show k - f = 0 by omega]
      simp only [List.map_cons, List.map_nil]
      rw [List.filter_cons_of_neg (by simp; omega)]
      rfl
theorem chunk_ids (k f : Nat) : idsG (chunkG k) ((f : Int) + 1) = (List.range (k - f)).map fun (i : Nat) => ((f + i : Nat) : Int) + 1 := by
  symm
  refine idsG_of ?_ ?_
  · rw [List.pairwise_map]
    exact List.pairwise_lt_range.imp (fun {a b} h => by omega)
  · have e : allIds (chunkG k) = (List.range k).map fun (i : Nat) => (i : Int) + 1 := by unfold allIds chunkG; simp [Function.comp_def]
    rw [e, range_ge]
theorem chunk_step (r : PRule) (k c i : Nat) (hc : 0 < c) (hi : i * c < k ∨ i = 0) :
    stepJ (chunkG k) ⟨r, c, ((min (i * c) k : Nat) : Int) + 1, []⟩ = ⟨r, c, ((min ((i + 1) * c) k : Nat) : Int) + 1, []⟩ := by
  have hle : min (i * c) k = i * c := by
    rcases hi with h | h
    · omega
    · subst h; omega
  have hs : (i + 1) * c = i * c + c := Nat.succ_mul _ _
  unfold stepJ
  simp only [List.length_nil, Nat.min_zero, List.drop_nil, Int.toNat_natCast, Nat.sub_zero]
  rw [if_pos hc, hle, chunk_ids, List.length_map, List.length_range]
  by_cases h : c < k - i * c
  · rw [if_pos h, List.getD_eq_getElem?_getD, List.getElem?_map, List.getElem?_range (by omega)]
    simp only [Option.map_some, Option.getD_some]
    rw [show min ((i + 1) * c) k = i * c + c by omega, show i * c + (c - 1) = i * c + c - 1 by omega]
    congr 1
    omega
  · rw [if_neg h, show min ((i + 1) * c) k = k by omega]
    rfl
theorem chunk_ended (r : PRule) (k c i : Nat) : endedJ ⟨r, c, ((min (i * c) k : Nat) : Int) + 1, []⟩ (chunkG k).next = decide (k ≤ i * c) := by
  unfold endedJ chunkG
  simp only [decide_true, Bool.and_true]
  rw [decide_eq_decide]
  omega
end Go.Hg

namespace Go.Hg
open Go.RowKit Go.Proofs

theorem infoOp : (Tryz.prog.info? 50).map (fun i => (i.zero, i.size, i.bytes)) = some (some (.agg #[.int .i64 0, .int .i64 0, .string ByteArray.empty, .int .i64 0, .int .i64 0, .string ByteArray.empty, .int .i64 0, .int .i64 0, .string ByteArray.empty, .bool false]), 10, 104) := by kernel_rfl
theorem oneOps (l : List POp) : ∀ u ∈ (l.map POp.cells).flatten, u.oneCell' = true := by
  intro u hu
  obtain ⟨r, hr, hur⟩ := List.mem_flatten.1 hu
  obtain ⟨o, -, rfl⟩ := List.mem_map.1 hr
  simp only [POp.cells, List.mem_cons, List.not_mem_nil, or_false] at hur
  rcases hur with rfl | rfl | rfl | rfl | rfl | rfl | rfl | rfl | rfl | rfl <;> rfl
end Go.Hg

namespace Go.Hg
open Go.RowKit Go.ChangeShapes Go.WideShapes Go.Deep Go.Proofs

section
variable {H : Type} {enc : TypeId × Value → H} {W : World} {base : Nat} {sp : Nat → Bool} {held : Bool}
set_option maxRecDepth 100000 in
theorem openU8 {v : Value} {d : DataW H} {ps : List MemPlace} {r : Reach} {b0 : Nat} (hval : Value.okWide Tryz.prog W r b0 5 v) (h : DataW.Trod enc Tryz.prog W base sp held 5 v d ps) : ∃ k : Nat, k < 256 ∧ v = .int .u8 k := by
  obtain ⟨m, rfl⟩ := okWide_int Tryz.underlying5 hval
  obtain ⟨n, hn⟩ := h
  obtain ⟨k, e, -, hw⟩ := DataW.trod_int Tryz.underlying5 hn
  have hb := bounds_u8 hw
  have e2 : m = k := by
    have e' : [Value.int .u8 m] = [Value.int .u8 k] := e
    simpa using e'
  subst e2
  exact ⟨m.toNat, by omega, by rw [Int.toNat_of_nonneg hb.1]⟩
end
end Go.Hg

namespace Go.Hg
open Go.RowKit Go.Proofs

theorem exR_new (c : Nat) (h1 : 1 ≤ c) (h2 : c ≤ 1024) : newE exR c = 0 := by
  unfold newE
  rw [if_neg (by decide), if_neg (by omega)]
theorem chunk_fair (k : Nat) (hk : k ≤ 60) : fairOps (List.replicate k addMan) = true := by
  unfold fairOps
  rw [Bool.and_eq_true]
  refine ⟨List.all_eq_true.2 fun x hx => ?_, by simp; omega⟩
  rw [List.eq_of_mem_replicate hx]
  decide
theorem chunk_inv (k : Nat) (hk : k ≤ 60) : GInv (chunkG k) := chunk_made k hk ▸ madeK_inv _ _

set_option maxRecDepth 100000 in
set_option maxHeartbeats 8000000 in
theorem law23Chunks (n m : Nat) (hn : n < 256) (hm : m < 256) (w : World) (hx : ExG w) :
    Calls Tryz.prog 5 #[.int .u8 n, .int .u8 m] w fun e w' => e = .returned (.bool true) ∧ Grow w w' := by
  have HX := Lib.hid hx
  obtain ⟨iO, hiO, hzO0, hzO1, hzO2⟩ := info_parts infoOp
  clear hx
  go_enter Tryz.func5, Tryz.ntmps5
  go_upto_region 2 with fail
  go_cut [6, 7] (fun a b wx => (∃ K C : Nat, K < 60 ∧ 1 ≤ C ∧ C ≤ 20 ∧ a = .int .i64 (K : Int) ∧ b = .int .i64 (C : Int)) ∧ wx = w)
  case first =>
    go_wp2_with fail
    go_meet
    exact ⟨⟨n % 60, 1 + m % 20, by omega, by omega, by omega, by congr 1, by congr 1⟩, rfl⟩
  case rest =>
    obtain ⟨⟨K, C, hK, hC1, hC2, rfl, rfl⟩, hw⟩ := hcut
    have hw' := hw.symm
    subst hw'
    clear hw
    go_wp2
    go_loopg [5, 8] K (fun g lv i wr => ∃ (k : Nat) (ob : Option Nat), k ≤ K ∧ g = K - k ∧ i = .int .i64 k ∧ OwnS wr 50 10 lv k ((List.replicate k addMan).map POp.cells).flatten ob ∧ (∀ q, ob = some q → w.heap.size ≤ q) ∧ Grow w wr)
    case atStart => exact ⟨0, none, by omega, by omega, rfl, OwnS.nil _ _ _, by simp, Grow.rfl' w⟩
    case round =>
      obtain ⟨k, ob, hk, rfl, rfl, ho, hob, hg⟩ := hrel
      have HO := Lib.hid ho; have HOB := Lib.hid hob; have HG := Lib.hid hg
      obtain ⟨oa, oc, rfl, -, -⟩ := ho.isSlice
      clear ho hob hg
      by_cases hk3 : k < K
      · have HW := Lib.hid (show ∀ o1, Grow wr (wr.alloc o1) from fun o1 => (Grow.rfl' wr).allocd o1)
        have HRD := Lib.hid (Rd.lit wr addMan.cells.toArray 50 10 1 rfl)
        have HM := Lib.hid (show ((List.replicate (k + 1) addMan).map POp.cells).flatten = ((List.replicate k addMan).map POp.cells).flatten ++ addMan.cells by
          rw [List.replicate_succ']
          simp)
        go_wp2_with (at_builtin; go_must (refine wpList_append_S _ rfl (.tmp 28) (.tmp 30) 24 rfl 50 iO _ 10 104 Tryz.underlying24 hiO hzO0 hzO1 hzO2 rfl (by decide) (.slice oa k oc) k _ ob rfl (HO.out.grow (HW.out _)) (.slice (some ⟨wr.heap.size, 0, none⟩) 1 1) rfl 1 _ HRD.out (by have := oneOps [addMan]; simpa using this) (by unfold maxLen; omega) (by omega) ?_))
        intro v5 w5 ob5 p1 p2 p3
        have HO5 := Lib.hid (show OwnS w5 50 10 v5 (k + 1) ((List.replicate (k + 1) addMan).map POp.cells).flatten ob5 by rw [HM.out]; simpa using p1)
        have HG5 := Lib.hid (show Grow w w5 from (HG.out.step (HW.out _)).modd p2 (fun b hb => HOB.out b hb))
        have HOB5 := Lib.hid (show ∀ q, ob5 = some q → w.heap.size ≤ q from fun q hq => by
          have h1 := HG.out.size
          rcases p3 with p3 | ⟨g, p3, hge⟩
          · exact HOB.out q (by rw [← p3]; exact hq)
          · rw [p3] at hq; cases hq; first | omega | (simp at hge; omega))
        clear p1 p2 p3
        go_wp2_with fail
        go_roundg (K - (k + 1))
        case measure => omega
        case rel => exact ⟨k + 1, ob5, by omega, rfl, by go_num, HO5.out, HOB5.out, HG5.out⟩
      · obtain rfl : k = K := by omega
        have HOP := Lib.hid (show OpsR (fun _ => True) wr (.slice oa k oc) (List.replicate k addMan) from opsOwn (l := List.replicate k addMan) (ob := ob) (by rw [List.length_replicate]; exact HO.out))
        clear HO
        go_wp2_with fail
        refine (lawMade _ _ (List.replicate k addMan) wr HOP.out).mono ?_
        rintro e w3 h3
        obtain ⟨Bg, Bq, rfl, hpr⟩ : ∃ (B1 B2 : Nat), e = .returned (.tuple #[.pointer (some ⟨B1, 0, none⟩), .pointer (some ⟨B2, 0, none⟩), .bool true]) ∧ Pair 106 42 wr w3 B1 B2 (chunkG k) (chunkG k) := by
          rcases h3 with ⟨h, -⟩ | ⟨-, h⟩
          · rw [chunk_fair k (by omega)] at h; cases h
          · rw [chunk_made k (by omega)] at h; exact h
        obtain ⟨SG, -, hok, -, -, hb1, -, g13⟩ := hpr
        have HOK := Lib.hid hok; have HSG := Lib.hid (show ∀ b, SG b → b < w3.heap.size from fun b h => (hb1 b h).2)
        have HG3 := Lib.hid (HG.out.step g13)
        have HGI := Lib.hid (chunk_inv k (by omega))
        clear h3 hok hb1 g13
        obtain ⟨hx0, c0, c1, c2, c3, c4, c5, c6, c7⟩ := HX.out.grow HG3.out
        go_wp2_with fail
        refine (buildNew exR C w3).mono ?_
        rintro e w5 ⟨g5, h5⟩
        obtain ⟨B, rfl, hj⟩ : ∃ B, e = .returned (.tuple #[.pointer (some ⟨B, 0, none⟩), .int .i64 0]) ∧ JobOk (fun b => w3.heap.size ≤ b) w5 B ⟨exR, C, 1, []⟩ := by
          rcases h5 with ⟨h, -⟩ | ⟨-, h⟩
          · exact absurd (exR_new C hC1 (by omega)) h
          · exact h
        have HJ5 := Lib.hid hj.cut
        have HG5 := Lib.hid (HG3.out.step g5)
        have HOK5 := Lib.hid (HOK.out.grow g5)
        have HSJ := Lib.hid (show ∀ b, SG b → ¬ (w3.heap.size ≤ b ∧ b < w5.heap.size) from fun b hb h => by have := HSG.out b hb; omega)
        have HFW := Lib.hid (show ∀ b, (w3.heap.size ≤ b ∧ b < w5.heap.size) → w.heap.size ≤ b from fun b h => by have := HG3.out.size; omega)
        have HNX := Lib.hid (show (chunkG k).next = (k : Int) + 1 from rfl)
        have HCE := Lib.hid (chunk_ended exR k C)
        have HCSt := Lib.hid (fun i h => chunk_step exR k C i (by omega) h)
        clear g5 h5 hj c0 c1 c2 c3 c4 c5 c6 c7 hx0
        go_wp2_with fail
        go_loopg [14] 61 (fun g iv wr => ∃ s : Nat, s ≤ 60 ∧ g = 61 - s ∧ iv = .int .i64 ((s : Int) + 1) ∧ (s * C < k ∨ s = 0) ∧ JobOk (fun b => w3.heap.size ≤ b ∧ b < w5.heap.size) wr B ⟨exR, C, ((min (s * C) k : Nat) : Int) + 1, []⟩ ∧ GraphOk 106 SG wr Bg (chunkG k) ∧ Grow w wr)
        case atStart => exact ⟨0, by omega, by omega, rfl, .inr rfl, by simpa using HJ5.out, HOK5.out, HG5.out⟩
        case round =>
          obtain ⟨s, hs, rfl, rfl, hsk, hjr, hokr, hgr⟩ := hrel
          have HJR := Lib.hid hjr; have HOKR := Lib.hid hokr; have HGR := Lib.hid hgr
          have HIR := Lib.hid (show JobInv ⟨exR, C, ((min (s * C) k : Nat) : Int) + 1, []⟩ from ⟨by show (1 : Int) ≤ (C : Int); omega, by show (C : Int) ≤ 1024; omega, by show (1 : Int) ≤ ((min (s * C) k : Nat) : Int) + 1; omega, by show ((min (s * C) k : Nat) : Int) + 1 ≤ 4611686018427387904; omega, List.Pairwise.nil, by simp, by simp⟩)
          have HST := Lib.hid (HCSt.out s hsk)
          have HEN := Lib.hid (HCE.out (s + 1))
          obtain ⟨p, hp⟩ : ∃ p : Nat, (s + 1) * C = p := ⟨_, rfl⟩
          have hsc : (s + 1) * C = s * C + C := Nat.succ_mul s C
          have hp1 : p ≤ 100 ∧ (p < k → s < 59) := by
            refine ⟨by rcases hsk with h | h; omega; subst h; omega, fun h => ?_⟩
            have : s * 1 ≤ s * C := Nat.mul_le_mul_left s hC1
            omega
          have hpp : ((s : Int) + 1) * (C : Int) = (p : Int) := by rw [← hp]; push_cast; rfl
          have hp1a := hp1.1
          have HP1 := Lib.hid hp1.2
          have HSK := Lib.hid (show p < k → ((s + 1) * C < k ∨ s + 1 = 0) from fun h => .inl (by omega))
          rw [hp] at HST HEN
          have HPE := Lib.hid hp
          clear hjr hokr hgr hsk hsc hp hp1
          go_wp2_with fail
          refine (jobStep _ SG B Bg _ (chunkG k) wr HJR.out HIR.out HOKR.out HGI.out HSJ.out).mono ?_
          rintro e w6 ⟨rfl, hj6, m6⟩
          rw [HST.out] at hj6
          rw [HST.out, HEN.out]
          have HJ6 := Lib.hid hj6; have HOK6 := Lib.hid (HOKR.out.keep m6 HSJ.out); have HG6 := Lib.hid (HGR.out.modd m6 HFW.out)
          clear hj6 m6
          by_cases hkp : k ≤ p
          · have hmin : min p k = k := by omega
            have hdk : decide (k ≤ p) = true := by simpa using hkp
            have hkp2 : (k : Int) ≤ (p : Int) := by omega
            rw [hmin] at HJ6
            rw [hdk]
            clear hmin hdk
            go_wp2_with fail
            refine (jobAt _ B ⟨exR, C, (k : Int) + 1, []⟩ w6 HJ6.out).mono ?_
            rintro e w7 ⟨rfl, hw⟩
            have hw' := hw.symm
            subst hw'
            clear hw
            have hpk : ¬ (k : Int) < (p : Int) ∨ (k : Int) < (p : Int) := by omega
            rcases hpk with hpk | hpk
            · have hpe : (p : Int) = (k : Int) := by omega
              go_wp2_with fail
              refine (law23Wakes w6 (HX.out.grow HG6.out)).mono ?_
              rintro e w8 ⟨rfl, g8⟩
              have HG8 := Lib.hid (HG6.out.step g8)
              clear g8
              go_wp2
              go_ret
              exact ⟨rfl, HG8.out⟩
            · go_wp2_with fail
              refine (law23Wakes w6 (HX.out.grow HG6.out)).mono ?_
              rintro e w8 ⟨rfl, g8⟩
              have HG8 := Lib.hid (HG6.out.step g8)
              clear g8
              go_wp2
              go_ret
              exact ⟨rfl, HG8.out⟩
          · have hmin : min p k = p := by omega
            have hdk : decide (k ≤ p) = false := by simpa using hkp
            have hkp2 : ¬ (k : Int) ≤ (p : Int) := by omega
            have hkp3 : ¬ (k : Int) < (p : Int) := by omega
            have HJ7 := HJ6
            rw [hmin] at HJ6
            rw [hdk]
            clear hmin hdk
            go_wp2_with fail
            refine (jobAt _ B ⟨exR, C, (p : Int) + 1, []⟩ w6 HJ6.out).mono ?_
            rintro e w7 ⟨rfl, hw⟩
            have hw' := hw.symm
            subst hw'
            clear hw
            have HPK := Lib.hid (show p < k by omega)
            go_wp2_with fail
            go_roundg (61 - (s + 1))
            case measure => omega
            case rel => exact ⟨s + 1, by have := HP1.out HPK.out; omega, rfl, by go_num, HSK.out HPK.out, by rw [HPE.out]; exact HJ7.out, HOK6.out, HG6.out⟩
end Go.Hg
