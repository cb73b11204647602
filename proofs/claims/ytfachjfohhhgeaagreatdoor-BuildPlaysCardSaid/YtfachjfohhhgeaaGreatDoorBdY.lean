/- law23's calls and what is fair; A job, the reference's, and their two graphs, each of memory of its own; law23.BuildPlays: returns true; A law's row: numbers, texts, pairs of numbers, opened; Arguments: lists of int64, calls of a job; the laid rule. Conditions: those that each theorem names. -/
import Derived.WalkKit
import Derived.WalkSpells
import Derived.WalkLawsBesides
import Derived.Lib.Hide
import Derived.BigQuiet
import Derived.Deep.LoopGhost
import Derived.Test.YtfachjfohhhgeaaGreatDoorRows
import Derived.Lib.SliceRun
import Derived.WideMake
import Derived.Deep.RegionLaw
import Derived.Lib.Overlaps
import Derived.Deep.RegionHeld3
import Derived.Laws.ResultCell
import Derived.Shelf.SortM.Plain
import Derived.Shelf.SortM.SortNone
import Derived.Shelf.SlicesE.DeleteFunc
import Derived.Maps.OwnOps
import Derived.Maps.OwnSet
import Derived.Carry
import Derived.Lib.SlKeysI
import Derived.Shelf.SlIterI.Nil
import Derived.Conc.LoneCalls
import Derived.Conc.SmallLaws
import Derived.Deep.CutBlock
import Derived.Deep.DeepCutAuto
import Derived.Laws.EntriesVeiled
import Derived.Maps.RangeWalk
import Derived.Lib.SlMapFilter
import Derived.RowKit
import Derived.ReadAgain
import Derived.ChangeOld
import Derived.Deep.Slices
import Derived.OpenShut
import Derived.MakeChecks
import Derived.LaidMore
import Derived.Test.YtfachjfohhhgeaaGreatDoorBdL
import Derived.Test.YtfachjfohhhgeaaGreatDoorBdN
import Derived.Test.YtfachjfohhhgeaaGreatDoorBdO
import Derived.Test.YtfachjfohhhgeaaGreatDoorBdP
import Derived.Test.YtfachjfohhhgeaaGreatDoorBdR
import Derived.Test.YtfachjfohhhgeaaGreatDoorBdS
import Derived.Test.YtfachjfohhhgeaaGreatDoorBdT
import Derived.Test.YtfachjfohhhgeaaGreatDoorBdX
namespace Go.Hg
open Go.RowKit Go.Proofs

abbrev StepC (w : World) (b o : Nat) (x : PStep) (iv : Value) : Prop := b < w.heap.size ∧ w.cell? ⟨b, o, none⟩ = some (.int .i64 x.kind) ∧ w.cell? ⟨b, o + 1, none⟩ = some iv ∧ w.cell? ⟨b, o + 2, none⟩ = some (.int .i64 x.o.kind) ∧ w.cell? ⟨b, o + 3, none⟩ = some (.int .i64 x.o.id) ∧ w.cell? ⟨b, o + 4, none⟩ = some (.string x.o.typ) ∧
    w.cell? ⟨b, o + 5, none⟩ = some (.int .i64 x.o.from_) ∧ w.cell? ⟨b, o + 6, none⟩ = some (.int .i64 x.o.to_) ∧ w.cell? ⟨b, o + 7, none⟩ = some (.string x.o.name) ∧ w.cell? ⟨b, o + 8, none⟩ = some (.int .i64 x.o.v.kind) ∧
    w.cell? ⟨b, o + 9, none⟩ = some (.int .i64 x.o.v.n) ∧ w.cell? ⟨b, o + 10, none⟩ = some (.string x.o.v.s) ∧ w.cell? ⟨b, o + 11, none⟩ = some (.bool x.o.cascade)
theorem stepAt {S : Nat → Prop} {w wr : World} {x : PStep} {r : List Value} {b off : Nat} (h : RStep S w x r) (hb : b < w.heap.size) (g : Grow w wr) (hc : ∀ (j : Nat) c, r[j]? = some c → w.cell? ⟨b, off + j, none⟩ = some c) :
    ∃ iv, IdsR S wr iv x.ids ∧ ∀ w', Grow wr w' → StepC w' b off x iv := by
  obtain ⟨iv, rfl, h2⟩ := h
  refine ⟨iv, h2.growS g, fun w' g' => ?_⟩
  have k : ∀ (j : Nat) c, (.int .i64 x.kind :: iv :: x.o.cells : List Value)[j]? = some c → w'.cell? ⟨b, off + j, none⟩ = some c := fun j c hj => ((g.step g').cell (p := ⟨b, off + j, none⟩) hb).trans (hc j c hj)
  exact ⟨Nat.lt_of_lt_of_le hb (g.step g').size, k 0 _ rfl, k 1 _ rfl, k 2 _ rfl, k 3 _ rfl, k 4 _ rfl, k 5 _ rfl, k 6 _ rfl, k 7 _ rfl, k 8 _ rfl, k 9 _ rfl, k 10 _ rfl, k 11 _ rfl⟩
def fairS (l : List PStep) : Bool := (l.all fun x => decide (x.ids.length ≤ 6000) && !largeO x.o) && decide (l.length ≤ 60)

set_option maxRecDepth 100000 in
set_option maxHeartbeats 2000000 in
theorem law23Fair (S : Nat → Prop) (v : Value) (l : List PStep) (w : World) (hl : StepsR S w v l) :
    Calls Tryz.prog 24 #[v] w fun e w' => e = .returned (.bool (fairS l)) ∧ Grow w w' := by
  obtain ⟨aa, ca, rfl, hal, hac, hA⟩ := SlR.open hl
  clear hl
  unfold maxLen at hac
  have HA := Lib.hid hA; clear hA
  have hd : decide ((l.length : Int) ≤ 60) = decide (l.length ≤ 60) := by by_cases h : l.length ≤ 60 <;> simp [h] <;> omega
  have HDD := Lib.hid hd; clear hd
  go_enter Tryz.func24, Tryz.ntmps24
  go_wp2
  go_loopg [3] l.length (fun g i wr => ∃ k : Nat, k ≤ l.length ∧ g = l.length - k ∧ i = .int .i64 k ∧ (∀ y ∈ l.take k, (decide (y.ids.length ≤ 6000) && !largeO y.o) = true) ∧ Grow w wr)
  case atStart => exact ⟨0, by omega, by omega, rfl, by simp, Grow.rfl' w⟩
  case round =>
    obtain ⟨k, hk, rfl, rfl, hall, hgr⟩ := hrel
    have HALL := Lib.hid hall; have HGR := Lib.hid hgr; clear hall
    by_cases hkl : k < l.length
    · obtain ⟨ba, oa, ra, rfl, hSa, hba, hRa, hca⟩ := HA.out k l[k] (List.getElem?_eq_getElem hkl)
      obtain ⟨iv, hiv, hcs⟩ := stepAt hRa hba hgr hca
      obtain ⟨_, _, rfl, -, -, -⟩ := SlR.open hiv
      obtain ⟨hba', a0, a1, a2, a3, a4, a5, a6, a7, a8, a9, aa, ab⟩ := hcs wr (Grow.rfl' _)
      clear hca hRa hSa hba hgr hiv hcs
      have HM := Lib.hid (show l[k] ∈ l from List.getElem_mem hkl)
      have HT := Lib.hid (show l.take (k + 1) = l.take k ++ [l[k]] from List.take_succ_eq_append_getElem hkl)
      generalize l[k] = x at *
      by_cases hlen : x.ids.length ≤ 6000
      · have hl2 : ¬ (6000 : Int) < (x.ids.length : Int) := by omega
        have HLEN := Lib.hid hlen
        go_wp2_with fail
        refine (keepLargeOp x.o _).mono ?_
        rintro e w2 ⟨rfl, hg⟩
        have HG := Lib.hid (HGR.out.step hg); clear hg
        cases hx : largeO x.o
        · go_wp2_with fail
          go_roundg (l.length - (k + 1))
          case measure => omega
          case rel => exact ⟨k + 1, by omega, rfl, by go_num, by rw [HT.out]; intro y hy; rcases List.mem_append.1 hy with h | h; exact HALL.out y h; simp at h; subst h; rw [hx]; simpa using HLEN.out, HG.out⟩
        · have HF := Lib.hid (show fairS l = false by unfold fairS; rw [List.all_eq_false.2 ⟨x, HM.out, by rw [hx]; simp⟩]; rfl)
          go_wp2
          go_ret
          exact ⟨by rw [HF.out]; rfl, HG.out⟩
      · have hl2 : (6000 : Int) < (x.ids.length : Int) := by omega
        have HF := Lib.hid (show fairS l = false by unfold fairS; rw [List.all_eq_false.2 ⟨x, HM.out, by simp; omega⟩]; rfl)
        go_wp2
        go_ret
        exact ⟨by rw [HF.out]; rfl, HGR.out⟩
    · have HF := Lib.hid (show fairS l = decide (l.length ≤ 60) by
        have h1 : l.take k = l := List.take_of_length_le (by omega)
        have h2 := HALL.out
        rw [h1] at h2
        unfold fairS
        rw [List.all_eq_true.2 h2]
        rfl)
      have hd := HDD.out
      clear hgr
      go_wp2
      go_ret
      exact ⟨by rw [HF.out]; rfl, HGR.out⟩
end Go.Hg

namespace Go.Hg
open Go.RowKit Go.Proofs

theorem RJobOk.cut {S : Nat → Prop} {w : World} {B : Nat} {J : PJob} (h : RJobOk S w B J) : RJobOk (fun b => S b ∧ b < w.heap.size) w B J := by
  obtain ⟨lv, h1, h2, a, cap, rows, k1, k2, k3, k4, k5, k6⟩ := h
  refine ⟨lv, ⟨h1, blk_lt h2⟩, h2, a, cap, rows, k1, k2, k3, k4, k5, fun h0 => ?_⟩
  obtain ⟨b, off, e, hS, hb, hc⟩ := k6 h0
  exact ⟨b, off, e, ⟨⟨hS.1, hb⟩, hS.2⟩, hb, hc⟩
def Plays (P : Nat → Prop) (w : World) (Bj Bk Bg Bq : Nat) (J1 J2 : PJob) (G1 G2 : PGraph) : Prop :=
  ∃ S1 S2 S3 S4 : Nat → Prop, JobOk S1 w Bj J1 ∧ RJobOk S2 w Bk J2 ∧ GraphOk 106 S3 w Bg G1 ∧ GraphOk 42 S4 w Bq G2 ∧
    (∀ b, S1 b → ¬ S2 b ∧ ¬ S3 b ∧ ¬ S4 b) ∧ (∀ b, S2 b → ¬ S3 b ∧ ¬ S4 b) ∧ (∀ b, S3 b → ¬ S4 b) ∧ (∀ b, S1 b ∨ S2 b ∨ S3 b ∨ S4 b → P b ∧ b < w.heap.size)
section
variable {P : Nat → Prop} {w : World} {Bj Bk Bg Bq : Nat} {J1 J2 : PJob} {G1 G2 : PGraph} (h : Plays P w Bj Bk Bg Bq J1 J2 G1 G2)
include h
theorem Plays.grow {w' : World} (g : Grow w w') : Plays P w' Bj Bk Bg Bq J1 J2 G1 G2 := by
  obtain ⟨S1, S2, S3, S4, h1, h2, h3, h4, d1, d2, d3, hb⟩ := h
  exact ⟨S1, S2, S3, S4, h1.grow g, h2.grow g, h3.grow g, h4.grow g, d1, d2, d3, fun b h => ⟨(hb b h).1, Nat.lt_of_lt_of_le (hb b h).2 g.size⟩⟩
theorem Plays.imp {P' : Nat → Prop} (hP : ∀ b, P b → b < w.heap.size → P' b) : Plays P' w Bj Bk Bg Bq J1 J2 G1 G2 := by
  obtain ⟨S1, S2, S3, S4, h1, h2, h3, h4, d1, d2, d3, hb⟩ := h
  exact ⟨S1, S2, S3, S4, h1, h2, h3, h4, d1, d2, d3, fun b x => ⟨hP b (hb b x).1 (hb b x).2, (hb b x).2⟩⟩
theorem Plays.parts : ∃ S1 S2 S3 S4 : Nat → Prop, JobOk S1 w Bj J1 ∧ RJobOk S2 w Bk J2 ∧ GraphOk 106 S3 w Bg G1 ∧ GraphOk 42 S4 w Bq G2 := by
  obtain ⟨S1, S2, S3, S4, h1, h2, h3, h4, -⟩ := h
  exact ⟨S1, S2, S3, S4, h1, h2, h3, h4⟩
theorem Plays.step1 (hi : JobInv J1) (hG : GInv G1) : Calls Tryz.prog 14 #[.pointer (some ⟨Bj, 0, none⟩), .pointer (some ⟨Bg, 0, none⟩)] w fun e w' => e = .returned (.bool (endedJ (stepJ G1 J1) G1.next)) ∧ Plays P w' Bj Bk Bg Bq (stepJ G1 J1) J2 G1 G2 ∧ Mod P w w' := by
  obtain ⟨S1, S2, S3, S4, h1, h2, h3, h4, d1, d2, d3, hb⟩ := h
  refine (jobStep S1 S3 Bj Bg J1 G1 w h1 hi h3 hG (fun b h3 h1 => (d1 b h1).2.1 h3)).mono ?_
  rintro e w' ⟨rfl, k1, m⟩
  have hs := m.size
  exact ⟨rfl, ⟨S1, S2, S3, S4, k1, h2.keep m (fun b x y => (d1 b y).1 x), h3.keep m (fun b x y => (d1 b y).2.1 x), h4.keep m (fun b x y => (d1 b y).2.2 x), d1, d2, d3, fun b h => ⟨(hb b h).1, by have := (hb b h).2; omega⟩⟩, m.mono fun b x => (hb b (.inl x)).1⟩
theorem Plays.step2 (hi : JobInv J2) (hG : GInv G2) : Calls Tryz.prog 26 #[.pointer (some ⟨Bk, 0, none⟩), .pointer (some ⟨Bq, 0, none⟩)] w fun e w' => e = .returned (.bool (endedJ (stepJ G2 J2) G2.next)) ∧ Plays P w' Bj Bk Bg Bq J1 (stepJ G2 J2) G1 G2 ∧ Mod P w w' := by
  obtain ⟨S1, S2, S3, S4, h1, h2, h3, h4, d1, d2, d3, hb⟩ := h
  have hS2 : S2 Bk := by obtain ⟨_, hS, -⟩ := h2; exact hS
  refine (ref23Step S2 S4 Bk Bq J2 G2 w h2 hi h4 hG (fun b h4 h2 => (d2 b h2).2 h4)).mono ?_
  rintro e w' ⟨rfl, k1, m⟩
  have hs := m.size
  have m2 : Mod S2 w w' := m.mono fun b x => by have e : b = Bk := x; rw [e]; exact hS2
  exact ⟨rfl, ⟨S1, S2, S3, S4, h1.keep m2 (fun b x y => (d1 b x).1 y), k1, h3.keep m2 (fun b x y => (d2 b y).1 x), h4.keep m2 (fun b x y => (d2 b y).2 x), d1, d2, d3, fun b h => ⟨(hb b h).1, by have := (hb b h).2; omega⟩⟩, m2.mono fun b x => (hb b (.inr (.inl x))).1⟩
theorem Plays.touch1 (hi : JobInv J1) (SI : Nat → Prop) (v : Value) (l : List Int) (hl : IdsR SI w v l) (hsep : ∀ b, SI b → ¬ P b) (h64 : ∀ x ∈ l, (Lit.int .i64 x).wf = true) :
    Calls Tryz.prog 15 #[.pointer (some ⟨Bj, 0, none⟩), v] w fun e w' => e = .returned (.tuple #[]) ∧ Plays P w' Bj Bk Bg Bq (touchL J1 l) J2 G1 G2 ∧ Mod P w w' := by
  obtain ⟨S1, S2, S3, S4, h1, h2, h3, h4, d1, d2, d3, hb⟩ := h
  refine (jobTouch S1 SI Bj J1 v l w h1 hi hl (fun b x y => hsep b x (hb b (.inl y)).1) h64).mono ?_
  rintro e w' ⟨rfl, k1, m⟩
  have hs := m.size
  exact ⟨rfl, ⟨S1, S2, S3, S4, k1, h2.keep m (fun b x y => (d1 b y).1 x), h3.keep m (fun b x y => (d1 b y).2.1 x), h4.keep m (fun b x y => (d1 b y).2.2 x), d1, d2, d3, fun b h => ⟨(hb b h).1, by have := (hb b h).2; omega⟩⟩, m.mono fun b x => (hb b (.inl x)).1⟩
theorem Plays.touch2 (hi : JobInv J2) (SI : Nat → Prop) (v : Value) (l : List Int) (hl : IdsR SI w v l) (hsep : ∀ b, SI b → ¬ P b) (h64 : ∀ x ∈ l, (Lit.int .i64 x).wf = true) :
    Calls Tryz.prog 27 #[.pointer (some ⟨Bk, 0, none⟩), v] w fun e w' => e = .returned (.tuple #[]) ∧ Plays (fun b => P b ∨ w.heap.size ≤ b) w' Bj Bk Bg Bq J1 (touchL J2 l) G1 G2 ∧ Mod P w w' := by
  obtain ⟨S1, S2, S3, S4, h1, h2, h3, h4, d1, d2, d3, hb⟩ := h
  have hS2 : S2 Bk := by obtain ⟨_, hS, -⟩ := h2; exact hS
  have hbk := hb Bk (.inr (.inl hS2))
  refine (ref23Touch S2 SI Bk J2 v l w h2 hi hl (fun b x y => hsep b x (y ▸ hbk.1)) h64).mono ?_
  rintro e w' ⟨rfl, k1, m⟩
  have hs := m.size
  have m2 : Mod S2 w w' := m.mono fun b x => by have e : b = Bk := x; rw [e]; exact hS2
  refine ⟨rfl, ⟨S1, fun b => (S2 b ∨ w.heap.size ≤ b) ∧ b < w'.heap.size, S3, S4, h1.keep m2 (fun b x y => (d1 b x).1 y), k1.cut, h3.keep m2 (fun b x y => (d2 b y).1 x), h4.keep m2 (fun b x y => (d2 b y).2 x), fun b x => ⟨fun y => ?_, (d1 b x).2⟩, fun b x => ?_, d3, fun b x => ?_⟩, m2.mono fun b x => (hb b (.inr (.inl x))).1⟩
  · have h6 := (hb b (.inl x)).2
    rcases y.1 with y | y
    · exact (d1 b x).1 y
    · omega
  · rcases x.1 with y | y
    · exact d2 b y
    · exact ⟨fun z => by have := (hb b (.inr (.inr (.inl z)))).2; omega, fun z => by have := (hb b (.inr (.inr (.inr z)))).2; omega⟩
  · rcases x with x | x | x | x
    · exact ⟨.inl (hb b (.inl x)).1, by have := (hb b (.inl x)).2; omega⟩
    · exact ⟨x.1.elim (fun y => .inl (hb b (.inr (.inl y))).1) .inr, x.2⟩
    · exact ⟨.inl (hb b (.inr (.inr (.inl x)))).1, by have := (hb b (.inr (.inr (.inl x)))).2; omega⟩
    · exact ⟨.inl (hb b (.inr (.inr (.inr x)))).1, by have := (hb b (.inr (.inr (.inr x)))).2; omega⟩
theorem Plays.do1 (hG : GInv G1) (SC : Nat → Prop) (nv ev rv iv : Value) (c : PCat) (o : POp) (hc : CatR SC w nv ev rv iv c) :
    Calls Tryz.prog 20 #[.pointer (some ⟨Bg, 0, none⟩), c.arg nv ev rv iv, o.args] w fun e w' => e = .returned (.tuple #[.int .i64 (if mayG c o G1 = 0 then idG o G1 else 0), .int .i64 (mayG c o G1)]) ∧ Plays (fun b => P b ∨ w.heap.size ≤ b) w' Bj Bk Bg Bq J1 J2 (stepG c o G1) G2 ∧ Mod P w w' := by
  obtain ⟨S1, S2, S3, S4, h1, h2, h3, h4, d1, d2, d3, hb⟩ := h
  refine (graphDo S3 SC Bg G1 nv ev rv iv c o w h3 hG hc).mono ?_
  rintro e w' ⟨k0, k1, m⟩
  have hs := m.size
  refine ⟨k0, ⟨S1, S2, fun b => (S3 b ∨ w.heap.size ≤ b) ∧ b < w'.heap.size, S4, h1.keep m (fun b x y => (d1 b x).2.1 y), h2.keep m (fun b x y => (d2 b x).1 y), k1.cut, h4.keep m (fun b x y => d3 b y x), fun b x => ⟨(d1 b x).1, fun y => ?_, (d1 b x).2.2⟩, fun b x => ⟨fun y => ?_, (d2 b x).2⟩, fun b x y => ?_, fun b x => ?_⟩, m.mono fun b x => (hb b (.inr (.inr (.inl x)))).1⟩
  · have h6 := (hb b (.inl x)).2
    rcases y.1 with y | y
    · exact (d1 b x).2.1 y
    · omega
  · have h6 := (hb b (.inr (.inl x))).2
    rcases y.1 with y | y
    · exact (d2 b x).1 y
    · omega
  · have h6 := (hb b (.inr (.inr (.inr y)))).2
    rcases x.1 with x | x
    · exact d3 b x y
    · omega
  · rcases x with x | x | x | x
    · exact ⟨.inl (hb b (.inl x)).1, by have := (hb b (.inl x)).2; omega⟩
    · exact ⟨.inl (hb b (.inr (.inl x))).1, by have := (hb b (.inr (.inl x))).2; omega⟩
    · exact ⟨x.1.elim (fun y => .inl (hb b (.inr (.inr (.inl y)))).1) .inr, x.2⟩
    · exact ⟨.inl (hb b (.inr (.inr (.inr x)))).1, by have := (hb b (.inr (.inr (.inr x)))).2; omega⟩
theorem Plays.do2 (hG : GInv G2) (SC : Nat → Prop) (nv ev rv iv : Value) (c : PCat) (o : POp) (hc : CatR SC w nv ev rv iv c) :
    Calls Tryz.prog 29 #[.pointer (some ⟨Bq, 0, none⟩), c.arg nv ev rv iv, o.args] w fun e w' => e = .returned (.tuple #[.int .i64 (if mayG c o G2 = 0 then idG o G2 else 0), .int .i64 (mayG c o G2)]) ∧ Plays (fun b => P b ∨ w.heap.size ≤ b) w' Bj Bk Bg Bq J1 J2 G1 (stepG c o G2) ∧ Mod P w w' := by
  obtain ⟨S1, S2, S3, S4, h1, h2, h3, h4, d1, d2, d3, hb⟩ := h
  refine (refDo S4 SC Bq G2 nv ev rv iv c o w h4 hG hc).mono ?_
  rintro e w' ⟨k0, k1, m⟩
  have hs := m.size
  refine ⟨k0, ⟨S1, S2, S3, fun b => (S4 b ∨ w.heap.size ≤ b) ∧ b < w'.heap.size, h1.keep m (fun b x y => (d1 b x).2.2 y), h2.keep m (fun b x y => (d2 b x).2 y), h3.keep m (fun b x y => d3 b x y), k1.cut, fun b x => ⟨(d1 b x).1, (d1 b x).2.1, fun y => ?_⟩, fun b x => ⟨(d2 b x).1, fun y => ?_⟩, fun b x y => ?_, fun b x => ?_⟩, m.mono fun b x => (hb b (.inr (.inr (.inr x)))).1⟩
  · have h6 := (hb b (.inl x)).2
    rcases y.1 with y | y
    · exact (d1 b x).2.2 y
    · omega
  · have h6 := (hb b (.inr (.inl x))).2
    rcases y.1 with y | y
    · exact (d2 b x).2 y
    · omega
  · have h6 := (hb b (.inr (.inr (.inl x)))).2
    rcases y.1 with y | y
    · exact d3 b x y
    · omega
  · rcases x with x | x | x | x
    · exact ⟨.inl (hb b (.inl x)).1, by have := (hb b (.inl x)).2; omega⟩
    · exact ⟨.inl (hb b (.inr (.inl x))).1, by have := (hb b (.inr (.inl x))).2; omega⟩
    · exact ⟨.inl (hb b (.inr (.inr (.inl x)))).1, by have := (hb b (.inr (.inr (.inl x)))).2; omega⟩
    · exact ⟨x.1.elim (fun y => .inl (hb b (.inr (.inr (.inr y)))).1) .inr, x.2⟩
end
theorem Plays.make {w2 w3 w4 w5 : World} {Bj Bk Bg Bq : Nat} {J1 J2 : PJob} {G1 G2 : PGraph} (hp : Pair 106 42 w2 w3 Bg Bq G1 G2) (hj : JobOk (fun b => w3.heap.size ≤ b) w4 Bj J1) (g4 : Grow w3 w4) (hk : RJobOk (fun b => w4.heap.size ≤ b) w5 Bk J2) (g5 : Grow w4 w5) :
    Plays (fun b => w2.heap.size ≤ b) w5 Bj Bk Bg Bq J1 J2 G1 G2 := by
  obtain ⟨S1, S2, h1, h2, d, b1, b2, g⟩ := hp
  have s1 := g.size; have s2 := g4.size; have s3 := g5.size
  refine ⟨fun b => w3.heap.size ≤ b ∧ b < w4.heap.size, fun b => w4.heap.size ≤ b ∧ b < w5.heap.size, S1, S2, hj.cut.grow g5, hk.cut, h1.grow (g4.step g5), h2.grow (g4.step g5), fun b x => ⟨fun y => by omega, fun y => by have := b1 b y; omega, fun y => by have := b2 b y; omega⟩, fun b x => ⟨fun y => by have := b1 b y; omega, fun y => by have := b2 b y; omega⟩, d, fun b x => ?_⟩
  rcases x with x | x | x | x
  · exact ⟨by omega, by omega⟩
  · exact ⟨by omega, by omega⟩
  · have := b1 b x; exact ⟨by omega, by omega⟩
  · have := b2 b x; exact ⟨by omega, by omega⟩
end Go.Hg

namespace Go.Hg
open Go.RowKit Go.Proofs

theorem JobInv.new {r : PRule} {chunk : Int} (h : newE r chunk = 0) : JobInv ⟨r, chunk, 1, []⟩ := by
  unfold newE at h
  by_cases h1 : formR r = false
  · rw [if_pos h1] at h; cases h
  · rw [if_neg h1] at h
    by_cases h2 : chunk < 1 ∨ 1024 < chunk
    · rw [if_pos h2] at h; cases h
    · exact ⟨by show 1 ≤ chunk; omega, by show chunk ≤ 1024; omega, by show (1 : Int) ≤ 1; omega, by show (1 : Int) ≤ 4611686018427387904; omega, List.Pairwise.nil, by simp, by simp⟩

def TailR (r : PRule) (n : Nat) (Bj Bk Bg Bq : Nat) (w2 wx : World) : Prop :=
  ∃ (J : PJob) (G : PGraph), Plays (fun b => n ≤ b) wx Bj Bk Bg Bq J J G G ∧ JobInv J ∧ J.r = r ∧ GInv G ∧ goodG G = true ∧ Grow w2 wx
theorem TailR.grow {r : PRule} {n Bj Bk Bg Bq : Nat} {w2 wx wy : World} (h : TailR r n Bj Bk Bg Bq w2 wx) (g : Grow wx wy) : TailR r n Bj Bk Bg Bq w2 wy := by
  obtain ⟨J, G, h1, h2, h3, h4, h5, h6⟩ := h
  exact ⟨J, G, h1.grow g, h2, h3, h4, h5, h6.step g⟩
theorem touchL_r (J : PJob) (l : List Int) : (touchL J l).r = J.r := by
  induction l generalizing J with
  | nil => rfl
  | cons a t ih => exact (ih (touchJ J a)).trans (touchJ_r J a).1
theorem fairS_len {l : List PStep} (h : fairS l = true) {x : PStep} (hx : x ∈ l) : x.ids.length ≤ 6000 := by
  unfold fairS at h
  rw [Bool.and_eq_true] at h
  have h1 := List.all_eq_true.1 h.1 x hx
  rw [Bool.and_eq_true] at h1
  simpa using h1.1
abbrev StepB (w : World) (b : Nat) (x : PStep) (iv : Value) : Prop := b < w.heap.size ∧ w.cell? ⟨b, 0, none⟩ = some (.int .i64 x.kind) ∧ w.cell? ⟨b, 1, none⟩ = some (iv) ∧ w.cell? ⟨b, 2, none⟩ = some (.int .i64 x.o.kind) ∧ w.cell? ⟨b, 3, none⟩ = some (.int .i64 x.o.id) ∧ w.cell? ⟨b, 4, none⟩ = some (.string x.o.typ) ∧ w.cell? ⟨b, 5, none⟩ = some (.int .i64 x.o.from_) ∧ w.cell? ⟨b, 6, none⟩ = some (.int .i64 x.o.to_) ∧ w.cell? ⟨b, 7, none⟩ = some (.string x.o.name) ∧ w.cell? ⟨b, 8, none⟩ = some (.int .i64 x.o.v.kind) ∧ w.cell? ⟨b, 9, none⟩ = some (.int .i64 x.o.v.n) ∧ w.cell? ⟨b, 10, none⟩ = some (.string x.o.v.s) ∧ w.cell? ⟨b, 11, none⟩ = some (.bool x.o.cascade)
theorem box12 {w' : World} {b : Nat} {x : PStep} {iv : Value} {T : TypeId} (h : w'.heap[b]? = some (.cells #[.int .i64 x.kind, iv, .int .i64 x.o.kind, .int .i64 x.o.id, .string x.o.typ, .int .i64 x.o.from_, .int .i64 x.o.to_, .string x.o.name, .int .i64 x.o.v.kind, .int .i64 x.o.v.n, .string x.o.v.s, .bool x.o.cascade] T (0, 0))) : StepB w' b x iv := by
  refine ⟨blk_lt h, ?_, ?_, ?_, ?_, ?_, ?_, ?_, ?_, ?_, ?_, ?_, ?_⟩ <;> exact (blk_cell h _).trans rfl

set_option maxRecDepth 100000 in
set_option maxHeartbeats 16000000 in
theorem law23Plays (S : Nat → Prop) (v : Value) (l : List PStep) (r : PRule) (chunk : Int) (w : World) (hx : ExG w) (hl : StepsR S w v l) (h64 : ∀ x ∈ l, ∀ y ∈ x.ids, (Lit.int .i64 y).wf = true) :
    Calls Tryz.prog 6 #[r.args, .int .i64 chunk, v] w fun e w' => e = .returned (.bool true) ∧ Grow w w' := by
  have HL := Lib.hid hl.cut; have HX := Lib.hid hx; have H64 := Lib.hid h64
  obtain ⟨aa, ca, rfl, hal, hac, -⟩ := SlR.open hl
  unfold maxLen at hac
  have HW := Lib.hid (show ∀ o1, Grow w (w.alloc o1) from fun o1 => (Grow.rfl' w).allocd o1)
  have HRN := Lib.hid (fun w' => ruleBoxNew w r w')
  clear hl hx h64
  go_enter Tryz.func6, Tryz.ntmps6
  go_wp2_with fail
  refine (keepLargeRule r _).mono ?_
  rintro e w1 ⟨bl, rfl, g1⟩
  have HG1 := Lib.hid ((HW.out _).step g1); have HR1 := Lib.hid (HRN.out w1 g1)
  clear g1
  have hsz1 : w.heap.size < w1.heap.size := blk_lt HR1.out
  cases bl
  rotate_left 1
  · go_wp2_with fail
    refine (law23Wakes w1 (HX.out.grow HG1.out)).mono ?_
    rintro e w2 ⟨rfl, g2⟩
    have HG2 := Lib.hid (HG1.out.step g2)
    clear g2
    go_wp2
    go_ret
    exact ⟨rfl, HG2.out⟩
  go_wp2_with fail
  refine (law23Fair _ _ l w1 (HL.out.grow HG1.out)).mono ?_
  rintro e w2 ⟨rfl, g2⟩
  have HG2 := Lib.hid (HG1.out.step g2); have HR2 := Lib.hid (HR1.out.grow g2)
  have hsz2 : w.heap.size < w2.heap.size := blk_lt HR2.out
  clear g2
  obtain ⟨bf, hbf⟩ : ∃ b, fairS l = b := ⟨_, rfl⟩
  have HF := Lib.hid hbf
  rw [hbf]
  clear hbf
  cases bf
  · go_wp2_with fail
    refine (law23Wakes w2 (HX.out.grow HG2.out)).mono ?_
    rintro e w3 ⟨rfl, g3⟩
    have HG3 := Lib.hid (HG2.out.step g3)
    clear g3
    go_wp2
    go_ret
    exact ⟨rfl, HG3.out⟩
  go_wp2_with fail
  refine (lawMade (fun _ => True) _ [] w2 ⟨none, 0, [], rfl, by simp, by simp [maxLen], rfl, by simp, by simp⟩).mono ?_
  rintro e w3 h3
  obtain ⟨Bg, Bq, rfl, hpr⟩ : ∃ (B1 B2 : Nat), e = .returned (.tuple #[.pointer (some ⟨B1, 0, none⟩), .pointer (some ⟨B2, 0, none⟩), .bool true]) ∧ Pair 106 42 w2 w3 B1 B2 (madeG []) (madeG []) := by
    rcases h3 with ⟨h, -⟩ | ⟨-, h⟩
    · exact absurd h (by decide)
    · exact h
  have hG0 : GInv (madeG []) := madeK_inv _ _
  have hgd0 : goodG (madeG []) = true := madeK_good _ _
  generalize madeG [] = G at *
  have HGI := Lib.hid hG0; have HGD := Lib.hid hgd0
  have HP3 := Lib.hid hpr
  have HG3 := Lib.hid (HG2.out.step hpr.grown); have HR3 := Lib.hid (HR2.out.grow hpr.grown); have HG23 := Lib.hid hpr.grown
  clear hpr h3 hG0 hgd0
  obtain ⟨hrl, c1, c2, c3, c4, c5, c6, c7, c0⟩ := HR3.out.cells
  go_wp2_with fail
  refine (buildNew r chunk w3).mono ?_
  rintro e w4 ⟨g4, h4⟩
  have HG4 := Lib.hid (HG3.out.step g4); have HR4 := Lib.hid (HR3.out.grow g4); have HG34 := Lib.hid g4
  clear g4 hrl c1 c2 c3 c4 c5 c6 c7 c0
  rcases h4 with ⟨hne, rfl⟩ | ⟨hz, Bj, rfl, hj⟩
  · have HNE := Lib.hid hne
    clear hne
    obtain ⟨hrl, c1, c2, c3, c4, c5, c6, c7, c0⟩ := HR4.out.cells
    go_wp2_with fail
    refine (ref23New r chunk w4).mono ?_
    rintro e w5 ⟨g5, h5⟩
    obtain rfl : e = .returned (.tuple #[.pointer none, .int .i64 (newE r chunk)]) := by
      rcases h5 with ⟨-, h⟩ | ⟨h, -⟩
      · exact h
      · exact absurd h HNE.out
    have HG5 := Lib.hid (HG4.out.step g5)
    clear g5 h5 hrl c1 c2 c3 c4 c5 c6 c7 c0 HNE
    generalize newE r chunk = ne at *
    by_cases hl0 : 0 < l.length
    · go_wp2_with fail
      refine wp_loop_rounds 1 ?_
      rw [rounds_succ]
      go_wp2_with fail
      refine (law23Wakes w5 (HX.out.grow HG5.out)).mono ?_
      rintro e w6 ⟨rfl, g6⟩
      have HG6 := Lib.hid (HG5.out.step g6)
      clear g6
      go_wp2
      go_ret
      exact ⟨rfl, HG6.out⟩
    · go_wp2_with fail
      refine wp_loop_rounds 1 ?_
      rw [rounds_succ]
      go_wp2_with fail
      refine (law23Wakes w5 (HX.out.grow HG5.out)).mono ?_
      rintro e w6 ⟨rfl, g6⟩
      have HG6 := Lib.hid (HG5.out.step g6)
      clear g6
      go_wp2
      go_ret
      exact ⟨rfl, HG6.out⟩
  have HZ := Lib.hid hz
  have HJ4 := Lib.hid hj
  clear hz hj
  obtain ⟨hrl, c1, c2, c3, c4, c5, c6, c7, c0⟩ := HR4.out.cells
  go_wp2_with fail
  refine (ref23New r chunk w4).mono ?_
  rintro e w5 ⟨g5, h5⟩
  obtain ⟨Bk, rfl, hk5⟩ : ∃ B, e = .returned (.tuple #[.pointer (some ⟨B, 0, none⟩), .int .i64 0]) ∧ RJobOk (fun b => w4.heap.size ≤ b) w5 B ⟨r, chunk, 1, []⟩ := by
    rcases h5 with ⟨h, -⟩ | ⟨-, h⟩
    · exact absurd HZ.out h
    · exact h
  have HG5 := Lib.hid (HG4.out.step g5); have HR5 := Lib.hid (HR4.out.grow g5)
  have HP5 := Lib.hid (Plays.make HP3.out HJ4.out HG34.out hk5 g5)
  have HG25 := Lib.hid (show Grow w2 w5 from (HG23.out.step HG34.out).step g5)
  have HJI := Lib.hid (JobInv.new HZ.out)
  clear g5 h5 hk5 hrl c1 c2 c3 c4 c5 c6 c7 c0 HJ4 HP3 HZ
  have HL5 := Lib.hid (HL.out.grow HG5.out)
  go_wp2_with fail
  go_loopg [14] l.length (fun g iv wr => ∃ (i : Nat) (J : PJob) (G' : PGraph), i ≤ l.length ∧ g = l.length - i ∧ iv = .int .i64 i ∧ Plays (fun b => w2.heap.size ≤ b) wr Bj Bk Bg Bq J J G' G' ∧ JobInv J ∧ J.r = r ∧ GInv G' ∧ goodG G' = true ∧ Grow w2 wr)
  case atStart => exact ⟨0, ⟨r, chunk, 1, []⟩, G, by omega, by omega, rfl, HP5.out, HJI.out, rfl, HGI.out, HGD.out, HG25.out⟩
  case round =>
    obtain ⟨i, J, G', hi, rfl, rfl, hp, hinv, hr, hgi, hgd, hg2⟩ := hrel
    have HP := Lib.hid hp; have HIN := Lib.hid hinv; have HRR := Lib.hid hr; have HGI' := Lib.hid hgi; have HGD' := Lib.hid hgd; have HG2r := Lib.hid hg2
    have HGW := Lib.hid (HG2.out.step hg2)
    clear hp hinv hr hgi hgd hg2
    by_cases hil : i < l.length
    · obtain ⟨_, _, he, -, -, hA⟩ := SlR.open HL.out
      cases he
      obtain ⟨ba, oa, ra, rfl, hSa, hba, hRa, hca⟩ := hA i l[i] (List.getElem?_eq_getElem hil)
      obtain ⟨iv, hiv, hcs⟩ := stepAt hRa hba HGW.out hca
      have HCS := Lib.hid hcs; have HIV := Lib.hid hiv
      obtain ⟨ai, ci, rfl, hic, hcc, -⟩ := SlR.open hiv
      obtain ⟨hbx, a0, a1, a2, a3, a4, a5, a6, a7, a8, a9, a10, a11⟩ := hcs wr (Grow.rfl' _)
      have H6 := Lib.hid (H64.out l[i] (List.getElem_mem hil))
      have HLEN := Lib.hid (fairS_len HF.out (List.getElem_mem hil))
      clear hA hca hRa hSa hba hcs hiv
      generalize l[i] = x at *
      obtain ⟨W1, hW1⟩ : ∃ W1, wr.alloc (.cells #[.int .i64 x.kind, .slice ai x.ids.length ci, .int .i64 x.o.kind, .int .i64 x.o.id, .string x.o.typ, .int .i64 x.o.from_, .int .i64 x.o.to_, .string x.o.name, .int .i64 x.o.v.kind, .int .i64 x.o.v.n, .string x.o.v.s, .bool x.o.cascade] 70) = W1 := ⟨_, rfl⟩
      have HBX := Lib.hid (show W1.heap[wr.heap.size]? = some (.cells #[.int .i64 x.kind, .slice ai x.ids.length ci, .int .i64 x.o.kind, .int .i64 x.o.id, .string x.o.typ, .int .i64 x.o.from_, .int .i64 x.o.to_, .string x.o.name, .int .i64 x.o.v.kind, .int .i64 x.o.v.n, .string x.o.v.s, .bool x.o.cascade] 70 (0, 0)) from hW1 ▸ heap_alloc_new wr _)
      have HW1 := Lib.hid (show Grow wr W1 from hW1 ▸ (Grow.rfl' wr).allocd _)
      have HP1 := Lib.hid ((HP.out.imp (P' := fun b => w2.heap.size ≤ b ∧ b < wr.heap.size) (fun b h1 h2 => ⟨h1, h2⟩)).grow HW1.out)
      have HGW1 := Lib.hid (HGW.out.step HW1.out); have HG21 := Lib.hid (HG2r.out.step HW1.out)
      have HIV1 := Lib.hid (HIV.out.growS HW1.out)
      have hwr : w2.heap.size ≤ wr.heap.size := HG2r.out.size
      have HB1 := Lib.hid (show ∀ w', w'.heap[wr.heap.size]? = W1.heap[wr.heap.size]? → StepB w' wr.heap.size x (.slice ai x.ids.length ci) from fun w' h => box12 (h.trans HBX.out))
      obtain ⟨hb1, b0, -⟩ := HB1.out W1 rfl
      go_upto_block 2 with fail
      clear hW1 a0 a1 a2 a3 a4 a5 a6 a7 a8 a9 a10 a11 hbx b0 hb1
      have hbw1 : wr.heap.size < W1.heap.size := blk_lt HBX.out
      have HNP := Lib.hid (show ¬ (w2.heap.size ≤ wr.heap.size ∧ wr.heap.size < wr.heap.size) by omega)
      have HPW := Lib.hid (show ∀ b, (w2.heap.size ≤ b ∧ b < wr.heap.size) → w2.heap.size ≤ b from fun b h => h.1)
      have HPN := Lib.hid (show ∀ b, (True ∧ b < w.heap.size) → ¬ (w2.heap.size ≤ b ∧ b < wr.heap.size) from fun b h h2 => by omega)
      go_cut [] (fun wx => TailR r w2.heap.size Bj Bk Bg Bq w2 wx)
      case first =>
        by_cases hk0 : x.kind = 0
        · have k0 : (x.kind == 0) = true := by simpa using hk0
          obtain ⟨eb, heb⟩ : ∃ b, endedJ (stepJ G' J) G'.next = b := ⟨_, rfl⟩
          have HEB := Lib.hid heb
          clear hk0 heb
          go_wp2_with fail
          refine (HP1.out.step1 HIN.out HGI'.out).mono ?_
          rintro e w6 ⟨rfl, hp6, m6⟩
          rw [HEB.out]
          have HP6 := Lib.hid hp6; have HG6 := Lib.hid (HG21.out.modd m6 HPW.out)
          clear hp6 m6
          go_wp2_with fail
          refine (HP6.out.step2 HIN.out HGI'.out).mono ?_
          rintro e w7 ⟨rfl, hp7, m7⟩
          rw [HEB.out]
          have HP7 := Lib.hid hp7; have HG7 := Lib.hid (HG6.out.modd m7 HPW.out)
          clear hp7 m7
          have HT := Lib.hid (show TailR r w2.heap.size Bj Bk Bg Bq w2 w7 from ⟨_, _, HP7.out.imp (fun b h _ => h.1), stepJ_inv HGI'.out HIN.out, (stepJ_r G' J).1.trans HRR.out, HGI'.out, HGD'.out, HG7.out⟩)
          cases eb
          · go_wp2_with fail
            go_meet
            exact HT.out
          · go_wp2_with fail
            go_meet
            exact HT.out
        have k0 : (x.kind == 0) = false := by simpa using hk0
        by_cases hk1 : x.kind = 1
        · have k1 : (x.kind == 1) = true := by simpa using hk1
          obtain ⟨hb1, -, b1, -⟩ := HB1.out W1 rfl
          clear hk0 hk1
          have HA1 := Lib.hid (show ∀ o1, Grow W1 (W1.alloc o1) from fun o1 => (Grow.rfl' W1).allocd o1)
          go_wp2_with (at_builtin; go_must (refine wpList_append_L rfl (.tmp 87) (.tmp 89) 25 rfl rowInt64 Tryz.underlying25 W1.heap.size _ rfl _ rfl x.ids (HIV1.out.growS (HA1.out _)) idOk64 (by simp) (by have := HLEN.out; unfold maxLen; omega) (by have := HLEN.out; omega) ?_))
          intro v5 w5 hown5 g5
          have HIN5 := Lib.hid hown5.toR
          have HG15 := Lib.hid ((HA1.out _).step g5)
          obtain ⟨a5, c5, rfl, -, -⟩ := SlR.open HIN5.out
          clear hown5 g5 hb1 b1
          have hs5 := HG15.out.size
          go_wp2_with fail
          refine ((HP1.out.grow HG15.out).touch1 HIN.out _ _ x.ids HIN5.out (fun b hb h => by have h1 : W1.heap.size ≤ b := hb; omega) H6.out).mono ?_
          rintro e w6 ⟨rfl, hp6, m6⟩
          have HP6 := Lib.hid hp6; have HM6 := Lib.hid m6; have HG6 := Lib.hid ((HG21.out.step HG15.out).modd m6 HPW.out)
          have hs6 := m6.size
          have HE6 := Lib.hid ((m6.block wr.heap.size (by omega) (by omega)).trans (HG15.out.heapEq hbw1))
          have HIV6 := Lib.hid ((HIV1.out.growS HG15.out).modS m6 (fun b hb h => by have := hb.2; omega))
          have HIN6 := Lib.hid (HIN5.out.modS m6 (fun b hb h => by have h1 : W1.heap.size ≤ b := hb; omega))
          obtain ⟨hb1, -, b1, -⟩ := HB1.out w6 HE6.out
          clear hp6 m6
          go_wp2_with fail
          refine (HP6.out.touch2 HIN.out _ _ x.ids HIV6.out (fun b hb h => by have := hb.2; omega) H6.out).mono ?_
          rintro e w7 ⟨rfl, hp7, m7⟩
          have HG7 := Lib.hid (HG6.out.modd m7 HPW.out)
          have HE7 := Lib.hid ((m7.block wr.heap.size (by omega) (by omega)).trans HE6.out)
          have HIV7 := Lib.hid (HIV6.out.modS m7 (fun b hb h => by have := hb.2; omega))
          have HIN7 := Lib.hid (HIN6.out.modS m7 (fun b hb h => by have h1 : W1.heap.size ≤ b := hb; omega))
          have HT := Lib.hid (show TailR r w2.heap.size Bj Bk Bg Bq w2 w7 from ⟨_, _, hp7.imp (fun b h _ => by rcases h with h | h <;> omega), touchL_inv HIN.out H6.out, (touchL_r J x.ids).trans HRR.out, HGI'.out, HGD'.out, HG7.out⟩)
          clear hp7 m7 hb1 b1
          obtain ⟨hb1, -, b1, -⟩ := HB1.out w7 HE7.out
          go_wp2_with fail
          refine (keepLongsEq _ _ _ _ x.ids w7 HIN7.out HIV7.out).mono ?_
          rintro e w8 ⟨rfl, g8⟩
          have HT8 := Lib.hid (HT.out.grow g8)
          clear g8
          go_wp2_with fail
          go_meet
          exact HT8.out
        · have k1 : (x.kind == 1) = false := by simpa using hk1
          clear hk0 hk1
          by_cases hk2 : x.kind = 2
          · have k2 : (x.kind == 2) = true := by simpa using hk2
            clear hk2
            have HD := Lib.hid (show Grow W1 W1.drew from (Grow.rfl' W1).drewd)
            have HS := Lib.hid (show ∀ w', Grow W1 w' → StepB w' wr.heap.size x (.slice ai x.ids.length ci) from fun w' g => HB1.out w' (g.heapEq hbw1))
            go_wp2_with fail
            go_region_held3 (fun w' => StepB w' wr.heap.size x (.slice ai x.ids.length ci)) (first | exact HS.out _ HD.out | exact HS.out _ HT3.out | exact HKD4.out) (first | (go_at_call 21; refine (lawTypes _).mono ?_; rintro e wt3 ⟨nv, ev, rfl, hc, hg3⟩; have HC := Lib.hid hc; have HT3 := Lib.hid (HD.out.step hg3); obtain ⟨na, nc, ea, ec, ra, rc, ia, ic, rfl, rfl, -, -⟩ := hc.slices; clear hc hg3) | (go_at_call 20; refine ((HP1.out.grow HT3.out).do1 HGI'.out _ _ _ _ _ typesC x.o HC.out).mono ?_; rintro e wd4 ⟨rfl, hp4, m4⟩; have HP4 := Lib.hid hp4; have HG4' := Lib.hid (HG21.out.step HT3.out); have HG4 := Lib.hid (HG4'.out.modd m4 HPW.out); have HK4 := Lib.hid (((m4.block wr.heap.size (Nat.lt_of_lt_of_le hbw1 HT3.out.size) (by omega)).trans (HT3.out.heapEq hbw1)).trans HBX.out); have HKD4 := Lib.hid (HB1.out wd4 ((m4.block wr.heap.size (Nat.lt_of_lt_of_le hbw1 HT3.out.size) (by omega)).trans (HT3.out.heapEq hbw1))); have HZ4 := Lib.hid (show wr.heap.size < wd4.heap.size ∧ W1.heap.size ≤ wd4.heap.size ∧ W1.heap.size ≤ wt3.heap.size by have := m4.size; have := HT3.out.size; omega); have HPW4 := Lib.hid (show ∀ b, ((w2.heap.size ≤ b ∧ b < wr.heap.size) ∨ wt3.heap.size ≤ b) → w2.heap.size ≤ b from fun b h => by have := HZ4.out; rcases h with h | h <;> omega); have HNP4 := Lib.hid (show ¬ ((w2.heap.size ≤ wr.heap.size ∧ wr.heap.size < wr.heap.size) ∨ wt3.heap.size ≤ wr.heap.size) by have := HZ4.out; omega); clear hp4 m4; generalize (if mayG typesC x.o G' = 0 then idG x.o G' else 0) = rid; generalize mayG typesC x.o G' = rer))
            have HD5 := Lib.hid (show Grow wd4 wd4.drew from (Grow.rfl' wd4).drewd)
            have HS5 := Lib.hid (show ∀ w', Grow wd4 w' → StepB w' wr.heap.size x (.slice ai x.ids.length ci) from fun w' g => box12 ((g.heapEq HZ4.out.1).trans HK4.out))
            go_wp2_with fail
            go_region_held3 (fun w' => StepB w' wr.heap.size x (.slice ai x.ids.length ci)) (first | exact HS5.out _ HD5.out | exact HS5.out _ HT5.out | exact HKD6.out) (first | (go_at_call 21; refine (lawTypes _).mono ?_; rintro e wt5 ⟨nv, ev, rfl, hc, hg5⟩; have HC := Lib.hid hc; have HT5 := Lib.hid (HD5.out.step hg5); obtain ⟨na, nc, ea, ec, ra, rc, ia, ic, rfl, rfl, -, -⟩ := hc.slices; clear hc hg5) | (go_at_call 29; refine ((HP4.out.grow HT5.out).do2 HGI'.out _ _ _ _ _ typesC x.o HC.out).mono ?_; rintro e wd6 ⟨rfl, hp6, m6⟩; have HP6 := Lib.hid hp6; have HG6 := Lib.hid ((HG4.out.step HT5.out).modd m6 HPW4.out); have HKD6 := Lib.hid (box12 ((m6.block wr.heap.size (Nat.lt_of_lt_of_le HZ4.out.1 HT5.out.size) (fun h => HNP4.out h)).trans ((HT5.out.heapEq HZ4.out.1).trans HK4.out))); have HZ6 := Lib.hid (show W1.heap.size ≤ wt5.heap.size by have := HZ4.out; have := HT5.out.size; omega); clear hp6 m6; generalize (if mayG typesC x.o G' = 0 then idG x.o G' else 0) = rid2; generalize mayG typesC x.o G' = rer2))
            go_wp2_with fail
            go_meet
            exact ⟨J, stepG typesC x.o G', HP6.out.imp (fun b h _ => by have := HZ4.out; have := HZ6.out; rcases h with (h | h) | h <;> omega), HIN.out, HRR.out, HGI'.out.stepG, goodG_step typesC_names HGD'.out, HG6.out⟩
          · have k2 : (x.kind == 2) = false := by simpa using hk2
            clear hk2
            go_wp2_with fail
            go_meet
            exact ⟨J, G', HP1.out.imp (fun b h _ => h.1), HIN.out, HRR.out, HGI'.out, HGD'.out, HG21.out⟩
      case rest =>
        obtain ⟨w9, rfl⟩ : ∃ w9, w9 = wc := ⟨_, rfl⟩
        obtain ⟨J', G2, hp9, hi9, hr9, hgi9, hgd9, hg9⟩ := hcut
        clear HP HIN HRR HGI' HGD' HG2r HGW HCS HIV H6 HBX HW1 HP1 HGW1 HG21 HIV1 HB1 HNP HPW HPN HLEN
        have HP9 := Lib.hid hp9; have HIN := Lib.hid hi9; have HRR := Lib.hid hr9; have HGI' := Lib.hid hgi9; have HGD' := Lib.hid hgd9; have HG9 := Lib.hid hg9
        have H64e := Lib.hid (ends64f hgd9)
        have HR9 := Lib.hid (RuleBox.grow HR2.out hg9)
        clear hp9 hi9 hr9 hgi9 hgd9 hg9
        obtain ⟨S1, S2, S3, S4, hj, hk, hg, hq⟩ := HP9.out.parts
        have HJ9 := Lib.hid hj; have HK9 := Lib.hid hk; have HGG := Lib.hid hg; have HQ9 := Lib.hid hq
        clear hj hk hg hq
        obtain ⟨vb, vh, hv⟩ : ∃ vb vh, verdV G2 J' = .tuple #[.bool vb, .int .i64 vh] := by
          unfold verdV
          split
          · exact ⟨_, _, rfl⟩
          · exact ⟨_, _, rfl⟩
        have HV := Lib.hid hv
        clear hv
        go_wp2_with fail
        refine (jobVerdict S1 S3 Bj Bg J' G2 w9 HJ9.out HIN.out HGG.out HGI'.out H64e.out).mono ?_
        rintro e wa ⟨rfl, ga⟩
        rw [HV.out]
        have HGa := Lib.hid ga
        clear ga
        go_wp2_with fail
        refine (ref23Verdict S2 S4 Bk Bq J' G2 wa (HK9.out.grow HGa.out) (HQ9.out.grow HGa.out) HGI'.out).mono ?_
        rintro e wb ⟨rfl, gb⟩
        rw [HV.out]
        have HGb := Lib.hid (HGa.out.step gb)
        have HJ := Lib.hid (HJ9.out.grow HGb.out); have HK := Lib.hid (HK9.out.grow HGb.out)
        obtain ⟨hrl, c1, c2, c3, c4, c5, c6, c7, c0⟩ := (RuleBox.grow HR9.out HGb.out).cells
        clear gb HJ9 HK9 HGG HQ9
        go_wp2_with fail
        refine wp_region_grow (by kernel_rfl) (by kernel_rfl) ?_
        repeat (go_big_quiet_step (first | (go_at_call 19; exact calls_gr ((jobAt S1 Bj J' _ (HJ.out.grow (by first | assumption | exact Gr.h _))).mono fun e w' ⟨he, hw⟩ => ⟨he, by subst hw; exact Grow.rfl' _⟩)) | (go_at_call 31; exact calls_gr ((ref23At S2 Bk J' _ (HK.out.grow (by first | assumption | exact Gr.h _))).mono fun e w' ⟨he, hw⟩ => ⟨he, by subst hw; exact Grow.rfl' _⟩)) | (go_at_call 22; exact calls_gr ((jobLeft S1 Bj J' _ (HJ.out.grow (by first | assumption | exact Gr.h _)) HIN.out).mono fun e w' ⟨he, hw⟩ => ⟨he, by subst hw; exact Grow.rfl' _⟩)) | (go_at_call 32; exact calls_gr ((ref23Left S2 Bk J' _ (HK.out.grow (by first | assumption | exact Gr.h _))).mono fun e w' ⟨he, hw⟩ => ⟨he, by subst hw; exact Grow.rfl' _⟩)) | (go_at_call 34; exact calls_gr ((jobRule S1 Bj J' _ (HJ.out.grow (by first | assumption | exact Gr.h _))).mono fun e w' ⟨he, hw⟩ => ⟨by rw [he, HRR.out], hw⟩)) | (go_at_call 33; exact calls_gr (keepRuleEq r _))))
        refine wpQuiet_nil ?_
        intro wd hd
        have HPd := Lib.hid (HP9.out.grow (HGb.out.step hd)); have HGd := Lib.hid (HG9.out.step (HGb.out.step hd))
        clear hd
        go_wp2_with fail
        go_roundg (l.length - (i + 1))
        case measure => omega
        case rel => exact ⟨i + 1, J', G2, by omega, rfl, by go_num, HPd.out, HIN.out, HRR.out, HGI'.out, HGD'.out, HGd.out⟩
    · have HGR := Lib.hid HGW.out
      go_wp2_with fail
      refine (law23Wakes wr (HX.out.grow HGR.out)).mono ?_
      rintro e w6 ⟨rfl, g6⟩
      have HG6 := Lib.hid (HGR.out.step g6)
      clear g6
      go_wp2
      go_ret
      exact ⟨rfl, HG6.out⟩
end Go.Hg

namespace Go.Hg
open Go.RowKit Go.ChangeShapes Go.WideShapes Go.Deep Go.Proofs

def In64' (x : Int) : Prop := -9223372036854775808 ≤ x ∧ x ≤ 9223372036854775807
section
variable {H : Type} {enc : TypeId × Value → H} {W : World} {base : Nat} {sp : Nat → Bool} {held : Bool}
set_option maxRecDepth 100000 in
theorem openInt {v : Value} {d : DataW H} {ps : List MemPlace} {r : Reach} {b0 : Nat} (hval : Value.okWide Tryz.prog W r b0 3 v) (h : DataW.Trod enc Tryz.prog W base sp held 3 v d ps) : ∃ x : Int, In64' x ∧ v = .int .i64 x := by
  obtain ⟨m, rfl⟩ := okWide_int Tryz.underlying3 hval
  obtain ⟨n, hn⟩ := h
  obtain ⟨k, e, -, hw⟩ := DataW.trod_int Tryz.underlying3 hn
  have hb := bounds_i64 hw
  have e2 : m = k := by
    have e' : [Value.int .i64 m] = [Value.int .i64 k] := e
    simpa using e'
  exact ⟨m, e2 ▸ hb, rfl⟩
end
end Go.Hg

namespace Go.Hg
open Go.RowKit Go.ChangeShapes Go.WideShapes Go.Deep Go.Proofs

section
variable {H : Type} {enc : TypeId × Value → H} {W : World} {base : Nat} {sp : Nat → Bool} {held : Bool}
theorem cellsI64S : Tryz.prog.cellsOf 25 = 1 := by kernel_rfl
theorem cellsStep : Tryz.prog.cellsOf 70 = 12 := by kernel_rfl
theorem list12 {α : Type} {l : List α} (h : l.length = 12) : ∃ a b, ∃ t : List α, l = a :: b :: t ∧ t.length = 10 := by
  match l, h with
  | a :: b :: t, h => exact ⟨a, b, t, rfl, by simpa using h⟩
set_option maxRecDepth 100000 in
theorem openStep {n : Nat} {cs : List Value} {x : DataW H × List MemPlace} (h : DataW.trod enc Tryz.prog W base sp held n 70 cs = some x) : ∃ o : PStep, RStep (fun _ => True) W o cs ∧ ∀ y ∈ o.ids, (Lit.int .i64 y).wf = true := by
  obtain ⟨xs, m, -, -, hl, hsz, hf⟩ := DataW.trod_struct Tryz.underlying70 h
  rw [cellsStep] at hl
  obtain ⟨c0, c1, t, rfl, ht⟩ := list12 hl
  obtain ⟨y0, h0⟩ := field_at hsz hf 0 rfl rfl cellsI rfl
  obtain ⟨y1, h1⟩ := field_at hsz hf 1 rfl rfl cellsI64S rfl
  obtain ⟨y2, h2⟩ := field_at hsz hf 2 rfl rfl cellsOp rfl
  obtain ⟨a0, e0, -⟩ := DataW.trod_int Tryz.underlying3 h0
  obtain ⟨v, l, e1, hv, hw⟩ := openIdsW h1
  obtain ⟨o, e2⟩ := openOp h2
  simp at e0 e1 e2
  rw [List.take_of_length_le (by omega)] at e2
  exact ⟨⟨a0, l, o⟩, ⟨v, by rw [e0, e1, e2], hv⟩, hw⟩
set_option maxRecDepth 100000 in
theorem openSteps {v : Value} {d : DataW H} {ps : List MemPlace} {r : Reach} {b0 : Nat} (hval : Value.okWide Tryz.prog W r b0 64 v) (h : DataW.Trod enc Tryz.prog W base sp held 64 v d ps) : ∃ l : List PStep, StepsR (fun _ => True) W v l ∧ ∀ x ∈ l, ∀ y ∈ x.ids, (Lit.int .i64 y).wf = true := by
  obtain ⟨a0, len0, cap0, rfl⟩ := okWide_slice Tryz.underlying64 hval
  obtain ⟨n, hn⟩ := h
  obtain ⟨v', l, h1, h2⟩ := openListC (fun (o : PStep) c => RStep (fun _ => True) W o c ∧ ∀ y ∈ o.ids, (Lit.int .i64 y).wf = true) Tryz.underlying64 cellsStep (by omega) (fun _ _ _ h => openStep h) hn
  have e : [Value.slice a0 len0 cap0] = [v'] := h1
  simp only [List.cons.injEq, and_true] at e
  subst e
  refine ⟨l, SlR.sub h2 (fun _ h => h) (fun _ _ _ h => h.1), fun x hx => ?_⟩
  obtain ⟨_, _, _, _, _, hA⟩ := SlR.open h2
  obtain ⟨k, hk, e⟩ := List.getElem_of_mem hx
  obtain ⟨_, _, _, _, _, _, hR, _⟩ := hA k x (by rw [List.getElem?_eq_getElem hk, e])
  exact hR.2
end
end Go.Hg
