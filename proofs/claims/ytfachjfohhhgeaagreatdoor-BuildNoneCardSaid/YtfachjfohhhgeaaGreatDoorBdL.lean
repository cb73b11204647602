/- Two graphs side by side, the program's and the reference's; hedgerowlaw17.Same of equal ones; law18.Made: a graph of changes, and the document's; law18.Made as the laws behind it want it; small facts; law23.wakes; the laid rule; (*hedgerowref23.Job).Step; A drawn region whose last operation z may turn what the others read: S is asked of the others alone; what z waits for may be taken first; law23's calls and what is fair; A law's row: how it is closed where the call returns true and nothing that was there has turned; A law's row: its argument of operations, opened; A law's row: nodes, edges, catalogs, opened; Arguments: lists of int64, calls of a job; the laid rule. Conditions: those that each theorem names. -/
import Derived.WalkKit
import Derived.WalkSpells
import Derived.WalkLawsBesides
import Derived.Lib.Hide
import Derived.BigQuiet
import Derived.Deep.LoopGhost
import Derived.Test.YtfachjfohhhgeaaGreatDoorRows
import Derived.Lib.SliceRun
import Derived.WideMake
import Derived.Deep.RegionLaw
import Derived.Lib.Overlaps
import Derived.Deep.RegionHeld3
import Derived.Laws.ResultCell
import Derived.Shelf.SortM.Plain
import Derived.Shelf.SortM.SortNone
import Derived.Shelf.SlicesE.DeleteFunc
import Derived.Maps.OwnOps
import Derived.Maps.OwnSet
import Derived.Carry
import Derived.Lib.SlKeysI
import Derived.Shelf.SlIterI.Nil
import Derived.Conc.LoneCalls
import Derived.Conc.SmallLaws
import Derived.Deep.CutBlock
import Derived.Deep.DeepCutAuto
import Derived.Laws.EntriesVeiled
import Derived.Maps.RangeWalk
import Derived.Lib.SlMapFilter
import Derived.RowKit
import Derived.ReadAgain
import Derived.ChangeOld
import Derived.Deep.Slices
import Derived.OpenShut
import Derived.MakeChecks
import Derived.LaidMore
import Derived.Test.YtfachjfohhhgeaaGreatDoorBdK
namespace Go.Hg
open Go.RowKit Go.Proofs

def Pair (T1 T2 : TypeId) (w1 w : World) (B1 B2 : Nat) (G1 G2 : PGraph) : Prop :=
  ∃ S1 S2 : Nat → Prop, GraphOk T1 S1 w B1 G1 ∧ GraphOk T2 S2 w B2 G2 ∧ (∀ b, S1 b → ¬ S2 b) ∧ (∀ b, S1 b → w1.heap.size ≤ b ∧ b < w.heap.size) ∧ (∀ b, S2 b → w1.heap.size ≤ b ∧ b < w.heap.size) ∧ Grow w1 w
theorem Pair.grow {T1 T2 : TypeId} {w1 w w' : World} {B1 B2 : Nat} {G1 G2 : PGraph} (h : Pair T1 T2 w1 w B1 B2 G1 G2) (g : Grow w w') : Pair T1 T2 w1 w' B1 B2 G1 G2 := by
  obtain ⟨S1, S2, h1, h2, h3, h4, h5, h6⟩ := h
  exact ⟨S1, S2, h1.grow g, h2.grow g, h3, fun b hb => ⟨(h4 b hb).1, Nat.lt_of_lt_of_le (h4 b hb).2 g.size⟩, fun b hb => ⟨(h5 b hb).1, Nat.lt_of_lt_of_le (h5 b hb).2 g.size⟩, h6.step g⟩
theorem Pair.swap {T1 T2 : TypeId} {w1 w : World} {B1 B2 : Nat} {G1 G2 : PGraph} (h : Pair T1 T2 w1 w B1 B2 G1 G2) : Pair T2 T1 w1 w B2 B1 G2 G1 := by
  obtain ⟨S1, S2, h1, h2, h3, h4, h5, h6⟩ := h
  exact ⟨S2, S1, h2, h1, fun b hb hb' => h3 b hb' hb, h5, h4, h6⟩
theorem Pair.grown {T1 T2 : TypeId} {w1 w : World} {B1 B2 : Nat} {G1 G2 : PGraph} (h : Pair T1 T2 w1 w B1 B2 G1 G2) : Grow w1 w := by
  obtain ⟨_, _, _, _, _, _, _, h⟩ := h; exact h
theorem Pair.step1 {T1 T2 : TypeId} {w1 w w' : World} {B1 B2 : Nat} {G2 G3 : PGraph} {S1 S2 : Nat → Prop} (h2 : GraphOk T2 S2 w B2 G2) (h3 : ∀ b, S1 b → ¬ S2 b) (h4 : ∀ b, S1 b → w1.heap.size ≤ b ∧ b < w.heap.size) (h5 : ∀ b, S2 b → w1.heap.size ≤ b ∧ b < w.heap.size) (h6 : Grow w1 w)
    (k1 : GraphOk T1 (fun b => S1 b ∨ w.heap.size ≤ b) w' B1 G3) (k2 : Mod S1 w w') : Pair T1 T2 w1 w' B1 B2 G3 G2 := by
  have hs := k2.size
  have h1s := h6.size
  refine ⟨fun b => (S1 b ∨ w.heap.size ≤ b) ∧ b < w'.heap.size, S2, k1.cut, h2.keep k2 (fun b hb hb' => h3 b hb' hb), fun b hb hb' => hb.1.elim (fun h => h3 b h hb') (fun h => by have := (h5 b hb').2; omega), fun b hb => ⟨hb.1.elim (fun h => (h4 b h).1) (fun h => by omega), hb.2⟩,
    fun b hb => ⟨(h5 b hb).1, by have := (h5 b hb).2; omega⟩, h6.modd k2 (fun b hb => (h4 b hb).1)⟩
theorem Pair.make {T1 T2 : TypeId} {w1 w2 w3 : World} {B1 B2 : Nat} {G1 G2 : PGraph} (h1 : GraphOk T1 (fun b => w1.heap.size ≤ b) w2 B1 G1) (g1 : Grow w1 w2) (h2 : GraphOk T2 (fun b => w2.heap.size ≤ b) w3 B2 G2) (g2 : Grow w2 w3) : Pair T1 T2 w1 w3 B1 B2 G1 G2 := by
  have hs := g1.size; have hs2 := g2.size
  refine ⟨fun b => w1.heap.size ≤ b ∧ b < w2.heap.size, fun b => w2.heap.size ≤ b ∧ b < w3.heap.size, h1.cut.grow g2, h2.cut, fun b hb hb' => by omega, fun b hb => ⟨hb.1, by omega⟩, fun b hb => ⟨by omega, hb.2⟩, g1.step g2⟩

theorem pairDo1 {T2 : TypeId} (SC : Nat → Prop) (B1 B2 : Nat) (G1 G2 : PGraph) (nv ev rv iv : Value) (c : PCat) (o : POp) (w1 w : World) (h : Pair 106 T2 w1 w B1 B2 G1 G2) (hG : GInv G1) (hc : CatR SC w nv ev rv iv c) :
    Calls Tryz.prog 20 #[.pointer (some ⟨B1, 0, none⟩), c.arg nv ev rv iv, o.args] w fun e w' =>
      e = .returned (.tuple #[.int .i64 (if mayG c o G1 = 0 then idG o G1 else 0), .int .i64 (mayG c o G1)]) ∧ Pair 106 T2 w1 w' B1 B2 (stepG c o G1) G2 := by
  obtain ⟨S1, S2, h1, h2, h3, h4, h5, h6⟩ := h
  exact (graphDo S1 SC B1 G1 nv ev rv iv c o w h1 hG hc).mono fun _ _ ⟨k1, k2, k3⟩ => ⟨k1, Pair.step1 h2 h3 h4 h5 h6 k2 k3⟩
theorem pairDo2 {T2 : TypeId} (SC : Nat → Prop) (B1 B2 : Nat) (G1 G2 : PGraph) (nv ev rv iv : Value) (c : PCat) (o : POp) (w1 w : World) (h : Pair T2 42 w1 w B1 B2 G1 G2) (hG : GInv G2) (hc : CatR SC w nv ev rv iv c) :
    Calls Tryz.prog 29 #[.pointer (some ⟨B2, 0, none⟩), c.arg nv ev rv iv, o.args] w fun e w' =>
      e = .returned (.tuple #[.int .i64 (if mayG c o G2 = 0 then idG o G2 else 0), .int .i64 (mayG c o G2)]) ∧ Pair T2 42 w1 w' B1 B2 G1 (stepG c o G2) := by
  obtain ⟨S1, S2, h1, h2, h3, h4, h5, h6⟩ := h
  exact (refDo S2 SC B2 G2 nv ev rv iv c o w h2 hG hc).mono fun _ _ ⟨k1, k2, k3⟩ => ⟨k1, (Pair.step1 h1 (fun b hb hb' => h3 b hb' hb) h5 h4 h6 k2 k3).swap⟩

end Go.Hg

namespace Go.Hg
open Go.RowKit Go.Proofs

def MadePost (l : List POp) (w : World) (e : Ending) (w' : World) : Prop :=
  (fairOps l = false ∧ e = .returned (.tuple #[.pointer none, .pointer none, .bool false]) ∧ Grow w w') ∨
  (fairOps l = true ∧ ∃ (B1 B2 : Nat), e = .returned (.tuple #[.pointer (some ⟨B1, 0, none⟩), .pointer (some ⟨B2, 0, none⟩), .bool true]) ∧ Pair 106 42 w w' B1 B2 (madeG l) (madeG l))

set_option maxRecDepth 100000 in
set_option maxHeartbeats 8000000 in
theorem lawMade (S : Nat → Prop) (v : Value) (l : List POp) (w : World) (hl : OpsR S w v l) : Calls Tryz.prog 9 #[v] w (MadePost l w) := by
  have HL := Lib.hid hl
  obtain ⟨aa, ca, rfl, hal, hac, hA⟩ := SlR.open hl
  clear hl
  unfold maxLen at hac
  have HA := Lib.hid hA; clear hA
  go_enter Tryz.func9, Tryz.ntmps9
  go_wp2_with fail
  refine (graphNew _).mono ?_
  rintro e w3 ⟨B1, rfl, hgr, hg3⟩
  have HGR3 := Lib.hid hgr; have HG3 := Lib.hid hg3
  clear hgr hg3
  go_wp2_with fail
  refine (refNew _).mono ?_
  rintro e w4 ⟨B2, rfl, hgr, hg4⟩
  have HPR := Lib.hid (Pair.make HGR3.out HG3.out hgr hg4)
  have HG4 := Lib.hid (HG3.out.step hg4)
  clear hgr hg4 HGR3 HG3
  go_wp2_with fail
  refine (lawFair S _ l _ (HL.out.growS HG4.out)).mono ?_
  rintro e w2 ⟨rfl, hg2⟩
  have HP2 := Lib.hid (HPR.out.grow hg2)
  have HG2 := Lib.hid (HG4.out.step hg2)
  clear hg2 HPR HG4
  cases hf : fairOps l
  · have HF := Lib.hid hf
    clear hf
    go_wp2
    go_ret3
    exact .inl ⟨HF.out, rfl, HG2.out⟩
  have HF := Lib.hid hf
  clear hf
  go_wp2
  go_loopg [7] (l.length + 1) (fun g i wr => ∃ (k : Nat), k ≤ l.length ∧ k ≤ 60 ∧ g = l.length + 1 - k ∧ i = .int .i64 k ∧ Pair 106 42 w wr B1 B2 (madeK k l) (madeK k l))
  case atStart => exact ⟨0, by omega, by omega, by omega, rfl, HP2.out⟩
  case round =>
    obtain ⟨k, hk, hk60, rfl, rfl, hpr⟩ := hrel
    have HP := Lib.hid hpr
    clear hpr HP2
    have HGK := Lib.hid HP.out.grown
    by_cases hkl : k < l.length
    · by_cases hk6 : k < 60
      · have HMK := Lib.hid (madeK_succ hkl)
        have HI := Lib.hid (madeK_inv l k)
        generalize madeK k l = G at *
        obtain ⟨ba, oa, ra, rfl, hSa, hba, hRa, hca⟩ := HA.out k l[k] (List.getElem?_eq_getElem hkl)
        have HS := Lib.hid (show ∀ w', Grow w w' → (w'.cell? ⟨ba, oa + k * 10, none⟩ = some (.int .i64 l[k].kind) ∧ w'.cell? ⟨ba, oa + k * 10 + 1, none⟩ = some (.int .i64 l[k].id) ∧ w'.cell? ⟨ba, oa + k * 10 + 2, none⟩ = some (.string l[k].typ) ∧ w'.cell? ⟨ba, oa + k * 10 + 3, none⟩ = some (.int .i64 l[k].from_) ∧ w'.cell? ⟨ba, oa + k * 10 + 4, none⟩ = some (.int .i64 l[k].to_) ∧ w'.cell? ⟨ba, oa + k * 10 + 5, none⟩ = some (.string l[k].name) ∧ w'.cell? ⟨ba, oa + k * 10 + 6, none⟩ = some (.int .i64 l[k].v.kind) ∧ w'.cell? ⟨ba, oa + k * 10 + 7, none⟩ = some (.int .i64 l[k].v.n) ∧ w'.cell? ⟨ba, oa + k * 10 + 8, none⟩ = some (.string l[k].v.s) ∧ w'.cell? ⟨ba, oa + k * 10 + 9, none⟩ = some (.bool l[k].cascade)) from fun w' hg' => (opCells hRa hba hg' hca).2)
        clear hca hRa hSa hba
        generalize l[k] = o at *
        have HD := Lib.hid (show Grow w wr.drew from HP.out.grown.drewd)
        have HPD := Lib.hid (HP.out.grow ((Grow.rfl' wr).drewd))
        go_wp2_with fail
        go_region_held3 (fun w' => w'.cell? ⟨ba, oa + k * 10, none⟩ = some (.int .i64 o.kind) ∧ w'.cell? ⟨ba, oa + k * 10 + 1, none⟩ = some (.int .i64 o.id) ∧ w'.cell? ⟨ba, oa + k * 10 + 2, none⟩ = some (.string o.typ) ∧ w'.cell? ⟨ba, oa + k * 10 + 3, none⟩ = some (.int .i64 o.from_) ∧ w'.cell? ⟨ba, oa + k * 10 + 4, none⟩ = some (.int .i64 o.to_) ∧ w'.cell? ⟨ba, oa + k * 10 + 5, none⟩ = some (.string o.name) ∧ w'.cell? ⟨ba, oa + k * 10 + 6, none⟩ = some (.int .i64 o.v.kind) ∧ w'.cell? ⟨ba, oa + k * 10 + 7, none⟩ = some (.int .i64 o.v.n) ∧ w'.cell? ⟨ba, oa + k * 10 + 8, none⟩ = some (.string o.v.s) ∧ w'.cell? ⟨ba, oa + k * 10 + 9, none⟩ = some (.bool o.cascade)) (first | exact HS.out _ HD.out | exact HS.out _ HT3.out | exact HS.out _ HP4.out.grown) (first | (go_at_call 21; refine (lawTypes _).mono ?_; rintro e wt3 ⟨nv, ev, rfl, hc, hg3⟩; have HC := Lib.hid hc; have HT3 := Lib.hid (HD.out.step hg3); have HTG3 := Lib.hid hg3; obtain ⟨na, nc, ea, ec, ra, rc, ia, ic, rfl, rfl, -, -⟩ := hc.slices; clear hc hg3) | (go_at_call 20; refine (pairDo1 _ B1 B2 G G _ _ _ _ typesC o w _ (HPD.out.grow HTG3.out) HI.out HC.out).mono ?_; rintro e wd4 ⟨rfl, hp4⟩; have HP4 := Lib.hid hp4; clear hp4; generalize (if mayG typesC o G = 0 then idG o G else 0) = rid; generalize mayG typesC o G = rer))
        have HD5 := Lib.hid (show Grow w wd4.drew from HP4.out.grown.drewd)
        have HPD5 := Lib.hid (HP4.out.grow ((Grow.rfl' wd4).drewd))
        go_wp2_with fail
        go_region_held3 (fun w' => w'.cell? ⟨ba, oa + k * 10, none⟩ = some (.int .i64 o.kind) ∧ w'.cell? ⟨ba, oa + k * 10 + 1, none⟩ = some (.int .i64 o.id) ∧ w'.cell? ⟨ba, oa + k * 10 + 2, none⟩ = some (.string o.typ) ∧ w'.cell? ⟨ba, oa + k * 10 + 3, none⟩ = some (.int .i64 o.from_) ∧ w'.cell? ⟨ba, oa + k * 10 + 4, none⟩ = some (.int .i64 o.to_) ∧ w'.cell? ⟨ba, oa + k * 10 + 5, none⟩ = some (.string o.name) ∧ w'.cell? ⟨ba, oa + k * 10 + 6, none⟩ = some (.int .i64 o.v.kind) ∧ w'.cell? ⟨ba, oa + k * 10 + 7, none⟩ = some (.int .i64 o.v.n) ∧ w'.cell? ⟨ba, oa + k * 10 + 8, none⟩ = some (.string o.v.s) ∧ w'.cell? ⟨ba, oa + k * 10 + 9, none⟩ = some (.bool o.cascade)) (first | exact HS.out _ HD5.out | exact HS.out _ HT5.out | exact HS.out _ HP6.out.grown) (first | (go_at_call 21; refine (lawTypes _).mono ?_; rintro e wt5 ⟨nv, ev, rfl, hc, hg3⟩; have HC := Lib.hid hc; have HT5 := Lib.hid (HD5.out.step hg3); have HTG5 := Lib.hid hg3; obtain ⟨na, nc, ea, ec, ra, rc, ia, ic, rfl, rfl, -, -⟩ := hc.slices; clear hc hg3) | (go_at_call 29; refine (pairDo2 _ B1 B2 (stepG typesC o G) G _ _ _ _ typesC o w _ (HPD5.out.grow HTG5.out) HI.out HC.out).mono ?_; rintro e wd6 ⟨rfl, hp6⟩; have HP6 := Lib.hid hp6; clear hp6; generalize (if mayG typesC o G = 0 then idG o G else 0) = rid2; generalize mayG typesC o G = rer2))
        go_wp2_with fail
        go_roundg (l.length + 1 - (k + 1))
        case measure => omega
        case rel => exact ⟨k + 1, by omega, by omega, rfl, by go_num, by rw [HMK.out]; exact HP6.out⟩
      · have HM := Lib.hid (madeK_full (l := l) (k := k) (.inr (by omega)) hk60)
        go_wp2
        go_ret3
        exact .inr ⟨HF.out, B1, B2, rfl, HM.out ▸ HP.out⟩
    · have HM := Lib.hid (madeK_full (l := l) (k := k) (.inl (by omega)) hk60)
      go_wp2
      go_ret3
      exact .inr ⟨HF.out, B1, B2, rfl, HM.out ▸ HP.out⟩
end Go.Hg

namespace Go.Hg
open Go.RowKit Go.Proofs

theorem opsOwn {w : World} {v : Value} {l : List POp} {ob : Option Nat} (h : OwnS w 50 10 v l.length (l.map POp.cells).flatten ob) : OpsR (fun _ => True) w v l := by
  have h2 : OwnL w 50 10 (fun (o : POp) r => r = o.cells) v l ob := ⟨l.map POp.cells, by simp, fun k x r hx hr => by
    rw [List.getElem?_map, hx] at hr
    simp only [Option.map_some, Option.some.injEq] at hr
    subst hr
    exact ⟨rfl, rfl⟩, h⟩
  exact h2.toSl (fun _ _ => trivial)
end Go.Hg

namespace Go.Hg
open Go.RowKit Go.Proofs

def exR : PRule := ⟨0, 2, sMan, sName, ByteArray.empty, ByteArray.empty, 0, 0⟩
def ExG (w : World) : Prop := 0 < w.heap.size ∧ RuleB w 0 exR
theorem ExG.grow {w w' : World} (h : ExG w) (g : Grow w w') : ExG w' := by
  obtain ⟨h0, c0, c1, c2, c3, c4, c5, c6, c7⟩ := h
  exact ⟨Nat.lt_of_lt_of_le h0 g.size, (g.cell (p := ⟨0, 0, none⟩) h0).trans c0, (g.cell (p := ⟨0, 1, none⟩) h0).trans c1, (g.cell (p := ⟨0, 2, none⟩) h0).trans c2, (g.cell (p := ⟨0, 3, none⟩) h0).trans c3, (g.cell (p := ⟨0, 4, none⟩) h0).trans c4, (g.cell (p := ⟨0, 5, none⟩) h0).trans c5, (g.cell (p := ⟨0, 6, none⟩) h0).trans c6, (g.cell (p := ⟨0, 7, none⟩) h0).trans c7⟩
theorem exR_new2 : newE exR 2 = 0 := by decide
def wz : POp := ⟨1, 0, sZoo, 0, 0, ByteArray.empty, ⟨0, 0, ByteArray.empty⟩, false⟩
def w23L : List POp := [wa, wa, wz]
def w23G : PGraph := ⟨[⟨1, sMan, []⟩, ⟨2, sMan, []⟩, ⟨3, sZoo, []⟩], [], 4⟩
theorem w23_fair : fairOps w23L = true := by decide
theorem w23_made : madeG w23L = w23G := by decide
theorem w23_inv : GInv w23G := w23_made ▸ madeK_inv _ _
theorem w23_ids1 : idsG w23G 1 = [1, 2, 3] := (idsG_of (by decide) (by show List.Perm _ ([1, 2, 3] : List Int); exact List.Perm.refl _)).symm
theorem w23_ids3 : idsG w23G 3 = [3] := (idsG_of (by decide) (by show List.Perm _ ([3] : List Int); exact List.Perm.refl _)).symm
def w23J0 : PJob := ⟨exR, 2, 1, []⟩
def w23J1 : PJob := ⟨exR, 2, 3, []⟩
def w23J2 : PJob := ⟨exR, 2, 3, [1]⟩
def w23J3 : PJob := ⟨exR, 2, 4, []⟩
theorem w23_s1 : stepJ w23G w23J0 = w23J1 := by
  unfold stepJ w23J0
  simp only [w23_ids1]
  rfl
theorem w23_t : touchL w23J1 [1] = w23J2 := by simp [touchL, touchJ, w23J1, w23J2, putL]
theorem w23_s2 : stepJ w23G w23J2 = w23J3 := by
  unfold stepJ w23J2
  simp only [w23_ids3]
  rfl
theorem w23_i0 : JobInv w23J0 := ⟨by decide, by decide, by decide, by decide, by decide, by decide, by decide⟩
theorem w23_i1 : JobInv w23J1 := ⟨by decide, by decide, by decide, by decide, by decide, by decide, by decide⟩
theorem w23_i2 : JobInv w23J2 := ⟨by decide, by decide, by decide, by decide, by decide, by decide, by decide⟩
theorem w23_i3 : JobInv w23J3 := ⟨by decide, by decide, by decide, by decide, by decide, by decide, by decide⟩
theorem w23_e1 : endedJ w23J1 w23G.next = false := by decide
theorem w23_v2 : verdV w23G w23J2 = .tuple #[.bool false, .int .i64 161] := rfl
theorem w23_e3 : endedJ w23J3 w23G.next = true := by decide
theorem w23_k3 : keepR w23G.nodes w23G.edges exR = false := by decide
theorem w23_v3 : verdV w23G w23J3 = .tuple #[.bool false, .int .i64 0] := by
  unfold verdV
  rw [if_pos w23_e3]
  show Value.tuple #[.bool (keepR w23G.nodes w23G.edges exR), _] = _
  rw [w23_k3]
theorem opsLitN (W : World) (l : List POp) (hm : l.length ≤ maxLen) {nb : Nat} (h : W.heap.size = nb) : OpsR (fun _ => True) (W.alloc (.cells (l.map POp.cells).flatten.toArray 50)) (.slice (some ⟨nb, 0, none⟩) l.length l.length) l := by
  subst h
  refine opsOwn (l := l) (ob := some W.heap.size) ?_
  have h1 := OwnS.lit W (l.map POp.cells).flatten.toArray 50 10 l.length hm (by
    clear hm
    show (l.map POp.cells).flatten.length = _
    induction l with
    | nil => rfl
    | cons a t ih => simp only [List.map_cons, List.flatten_cons, List.length_append, ih, List.length_cons]; simp [POp.cells]; omega)
  simpa using h1
theorem JobOk.cut {S : Nat → Prop} {w : World} {B : Nat} {J : PJob} (h : JobOk S w B J) : JobOk (fun b => S b ∧ b < w.heap.size) w B J := by
  obtain ⟨cb, mb, s, r, tm, h1, h2, h3, h4, h5, h6, h7, h8, h9⟩ := h
  exact ⟨cb, mb, s, r, tm, ⟨h1, blk_lt h7⟩, ⟨h2, blk_lt h8⟩, ⟨h3, h9.lt⟩, h4, h5, h6, h7, h8, h9⟩
theorem idsLit1 (W : World) (x : Int) {nb : Nat} (h : W.heap.size = nb) : IdsR (fun b => b = nb) (W.alloc (.cells #[.int .i64 x] 2)) (.slice (some ⟨nb, 0, none⟩) 1 1) [x] := by
  subst h
  exact IdsO.toR (l := [x]) (ob := some W.heap.size) (OwnS.lit W #[.int .i64 x] 2 1 1 (by unfold maxLen; omega) rfl) (fun g hg => (Option.some.inj hg).symm)

set_option maxRecDepth 100000 in
set_option maxHeartbeats 8000000 in
theorem law23Wakes (w : World) (hx : ExG w) : Calls Tryz.prog 12 #[] w fun e w' => e = .returned (.bool true) ∧ Grow w w' := by
  have HX := Lib.hid hx
  have HO := Lib.hid (opsLitN w w23L (by simp [w23L, maxLen]) rfl)
  have HW := Lib.hid (show ∀ o1, Grow w (w.alloc o1) from fun o1 => (Grow.rfl' w).allocd o1)
  clear hx
  go_enter Tryz.func12, Tryz.ntmps12
  go_wp2_with fail
  refine (lawMade _ _ w23L _ HO.out).mono ?_
  rintro e w2 h2
  obtain ⟨-, B1, B2, rfl, hpr⟩ : fairOps w23L = true ∧ ∃ (B1 B2 : Nat), e = .returned (.tuple #[.pointer (some ⟨B1, 0, none⟩), .pointer (some ⟨B2, 0, none⟩), .bool true]) ∧ Pair 106 42 _ w2 B1 B2 (madeG w23L) (madeG w23L) := by
    rcases h2 with ⟨h, _⟩ | h
    · rw [w23_fair] at h; cases h
    · exact h
  rw [w23_made] at hpr
  have HG2 := Lib.hid ((HW.out _).step hpr.grown)
  obtain ⟨SG, -, hok, -, -, hs1, -, -⟩ := hpr
  have HOK := Lib.hid hok
  have HSG := Lib.hid (show ∀ b, SG b → b < w2.heap.size from fun b hb => (hs1 b hb).2)
  obtain ⟨hx0, c0, c1, c2, c3, c4, c5, c6, c7⟩ := HX.out.grow HG2.out
  clear hok hs1 h2
  go_wp2_with fail
  refine (buildNew exR 2 w2).mono ?_
  rintro e w3 ⟨g3, h3⟩
  obtain ⟨B, rfl, hj⟩ : ∃ B, e = .returned (.tuple #[.pointer (some ⟨B, 0, none⟩), .int .i64 0]) ∧ JobOk (fun b => w2.heap.size ≤ b) w3 B w23J0 := by
    rcases h3 with ⟨h, -⟩ | ⟨-, h⟩
    · exact absurd exR_new2 h
    · exact h
  have HSJ := Lib.hid (show ∀ b, SG b → ¬ (w2.heap.size ≤ b ∧ b < w3.heap.size) from fun b hb h => by have := HSG.out b hb; omega)
  have HJ3 := Lib.hid hj.cut
  have HG3 := Lib.hid (HG2.out.step g3)
  have HOK3 := Lib.hid (HOK.out.grow g3)
  have HH := Lib.hid (show ∀ b, (w2.heap.size ≤ b ∧ b < w3.heap.size) → w.heap.size ≤ b from fun b hb => by have := HG2.out.size; omega)
  clear g3 h3 hj c0 c1 c2 c3 c4 c5 c6 c7 hx0
  go_wp2_with fail
  refine (jobStep _ SG B B1 w23J0 w23G w3 HJ3.out w23_i0 HOK3.out w23_inv HSJ.out).mono ?_
  rintro e w4 ⟨rfl, hj4, m4⟩
  rw [w23_s1] at hj4
  rw [w23_s1, w23_e1]
  have HJ4 := Lib.hid hj4; have HOK4 := Lib.hid (HOK3.out.keep m4 HSJ.out); have HG4 := Lib.hid (HG3.out.modd m4 HH.out); have HG34 := Lib.hid m4.size
  clear hj4 m4
  go_wp2_with fail
  refine (jobAt _ B w23J1 w4 HJ4.out).mono ?_
  rintro e w4' ⟨rfl, hw⟩
  have hw' := hw.symm
  subst hw'
  clear hw
  have hp1 : w23J1.pos = 3 := rfl
  rw [hp1]
  clear hp1
  have HA4 := Lib.hid (show ∀ o, Grow w4 (w4.alloc o) from fun o => (Grow.rfl' w4).allocd o)
  have HI4 := Lib.hid (idsLit1 w4 1 rfl)
  go_wp2_with fail
  refine (jobTouch _ (fun b => b = w4.heap.size) B w23J1 _ [1] _ (HJ4.out.grow (HA4.out _)) w23_i1 HI4.out (fun b hb h => by have := HG34.out; omega) (by decide)).mono ?_
  rintro e w5 ⟨rfl, hj5, m5⟩
  rw [w23_t] at hj5
  have HJ5 := Lib.hid hj5; have HOK5 := Lib.hid ((HOK4.out.grow (HA4.out _)).keep m5 HSJ.out); have HG5 := Lib.hid ((HG4.out.step (HA4.out _)).modd m5 HH.out)
  clear hj5 m5
  have H64 := Lib.hid (show ∀ e ∈ w23G.edges, (Lit.int .i64 e.from_).wf = true by decide)
  go_wp2_with fail
  refine (jobVerdict _ SG B B1 w23J2 w23G w5 HJ5.out w23_i2 HOK5.out w23_inv H64.out).mono ?_
  rintro e w6 ⟨rfl, g6⟩
  rw [w23_v2]
  have HJ6 := Lib.hid (HJ5.out.grow g6); have HOK6 := Lib.hid (HOK5.out.grow g6); have HG6 := Lib.hid (HG5.out.step g6)
  clear g6
  go_wp2_with fail
  refine (jobStep _ SG B B1 w23J2 w23G w6 HJ6.out w23_i2 HOK6.out w23_inv HSJ.out).mono ?_
  rintro e w7 ⟨rfl, hj7, m7⟩
  rw [w23_s2] at hj7
  rw [w23_s2, w23_e3]
  have HJ7 := Lib.hid hj7; have HOK7 := Lib.hid (HOK6.out.keep m7 HSJ.out); have HG7 := Lib.hid (HG6.out.modd m7 HH.out)
  clear hj7 m7
  go_wp2_with fail
  refine (jobVerdict _ SG B B1 w23J3 w23G w7 HJ7.out w23_i3 HOK7.out w23_inv H64.out).mono ?_
  rintro e w8 ⟨rfl, g8⟩
  rw [w23_v3]
  have HJ8 := Lib.hid (HJ7.out.grow g8); have HG8 := Lib.hid (HG7.out.step g8)
  clear g8
  go_wp2_with fail
  refine (jobAt _ B w23J3 w8 HJ8.out).mono ?_
  rintro e w8' ⟨rfl, hw⟩
  have hw' := hw.symm
  subst hw'
  have hp1 : w23J3.pos = 4 := rfl
  rw [hp1]
  clear hw hp1
  go_wp2_with fail
  refine (jobLeft _ B w23J3 w8 HJ8.out w23_i3).mono ?_
  rintro e w8' ⟨rfl, hw⟩
  have hw' := hw.symm
  subst hw'
  have hp1 : w23J3.tch.length = 0 := rfl
  rw [hp1]
  clear hw hp1
  go_wp2
  go_ret
  exact ⟨rfl, HG8.out⟩
end Go.Hg

namespace Go.Hg
open Go.RowKit Go.Proofs

theorem rjobSet {w : World} {B : Nat} {lv : Value} {J : PJob} {T : TypeId} (h : w.heap[B]? = some (.cells (rjobCells J lv) T (0, 0))) (z : Int) :
    (w.setCell ⟨B, 9, none⟩ (.int .i64 z)).heap[B]? = some (.cells (rjobCells { J with pos := z } lv) T (0, 0)) ∧ Mod (fun b => b = B) w (w.setCell ⟨B, 9, none⟩ (.int .i64 z)) :=
  ⟨by rw [heap_setCell_same w B 9 _ T _ h]; rfl, (Mod.rfl' (fun b => b = B) w).setd (p := ⟨B, 9, none⟩) (.inl rfl) _⟩
theorem RJobOk.setPos {S : Nat → Prop} {w : World} {B : Nat} {J : PJob} (h : RJobOk S w B J) (z : Int) : RJobOk S (w.setCell ⟨B, 9, none⟩ (.int .i64 z)) B { J with pos := z } ∧ Mod (fun b => b = B) w (w.setCell ⟨B, 9, none⟩ (.int .i64 z)) := by
  obtain ⟨lv, h1, h2, h3⟩ := h
  obtain ⟨a, m⟩ := rjobSet h2 z
  exact ⟨⟨lv, h1, a, h3.modS m (fun b hb => hb.2)⟩, m⟩
end Go.Hg

namespace Go.Hg
open Go.RowKit Go.Proofs

section
variable {P : Program} {ops : Array Oper} {Q : Exit → Act → World → Prop} {md : Region.Mode} {S : World → Prop}

def wpAnyZ (P : Program) (md : Region.Mode) (ops : Array Oper) (Q : Exit → Act → World → Prop) (S : World → Prop) (z : Nat) : Nat → Array Bool → Act → World → Prop
  | 0, done, a, w => Region.ready md ops done = [] ∧ Q .normal a w
  | n + 1, done, a, w => (Region.ready md ops done = [] → Q .normal a w) ∧ ∀ i ∈ Region.ready md ops done, wpOp P ops Q i (fun a' w' => (i ≠ z → S w') ∧ wpAnyZ P md ops Q S z n (done.setIfInBounds i true) a' w') a w
theorem wpAnyZ.any {z : Nat} : ∀ {n : Nat} {done : Array Bool} {a : Act} {w : World}, wpAnyZ P md ops Q S z n done a w → wpAny P md ops Q n done a w
  | 0, _, _, _, h => h
  | _ + 1, _, _, _, h => ⟨h.1, fun i hi => wpOp_mono (fun _ _ h' => h'.2.any) (h.2 i hi)⟩
def AllZ (P : Program) (md : Region.Mode) (ops : Array Oper) (Q : Exit → Act → World → Prop) (S : World → Prop) (z n : Nat) (done : Array Bool) (a : Act) (w : World) (rs : List Nat) : Prop :=
  ∀ i ∈ rs, wpOp P ops Q i (fun a' w' => (i ≠ z → S w') ∧ wpAnyZ P md ops Q S z n (done.setIfInBounds i true) a' w') a w
theorem AllZ.nil {z n : Nat} {done : Array Bool} {a : Act} {w : World} : AllZ P md ops Q S z n done a w [] := fun _ h => by cases h
theorem AllZ.cons {z n : Nat} {done : Array Bool} {a : Act} {w : World} {i : Nat} {o : Oper} {rs : List Nat} (ho : ops[i]? = some o)
    (h : ∀ K' : Act → World → Prop, Shut (∀ a w, S w → (S w → wpAnyZ P md ops Q S z n (done.setIfInBounds i true) a w) → K' a w) → if Region.wanted o (yielded ops a.tmps) = true then Oper.wp P o a w K' Q else K' (a.put o.dst undef) w)
    (hs : AllZ P md ops Q S z n done a w rs) : AllZ P md ops Q S z n done a w (i :: rs) := fun j hj => by
  rcases List.mem_cons.1 hj with rfl | hj
  · exact wpOp_step ho (fun K' hK => h K' (fun a w hS hW => hK a w ⟨fun _ => hS, hW hS⟩))
  · exact hs j hj
end
end Go.Hg

namespace Go.Hg
open Go.RowKit Go.Proofs

structure PStep where
  kind : Int
  ids : List Int
  o : POp
def RStep (S : Nat → Prop) (w : World) (x : PStep) (r : List Value) : Prop := ∃ iv, r = .int .i64 x.kind :: iv :: x.o.cells ∧ IdsR S w iv x.ids
abbrev StepsR (S : Nat → Prop) (w : World) (v : Value) (l : List PStep) : Prop := SlR S w 12 (RStep S w) v l
theorem StepsR.grow {S : Nat → Prop} {w w' : World} {v : Value} {l : List PStep} (h : StepsR S w v l) (g : Grow w w') : StepsR S w' v l :=
  SlR.keep h (fun _ _ hb => g.heapEq hb) g.size (fun _ _ _ ⟨iv, h1, h2⟩ => ⟨iv, h1, h2.growS g⟩)
theorem StepsR.cut {S : Nat → Prop} {w : World} {v : Value} {l : List PStep} (h : StepsR S w v l) : StepsR (fun b => S b ∧ b < w.heap.size) w v l := by
  obtain ⟨a, cap, rows, h1, h2, h3, h4, h5, h6⟩ := h
  refine ⟨a, cap, rows, h1, h2, h3, h4, fun k x r hx hr => ?_, fun h0 => ?_⟩
  · obtain ⟨iv, e, a2, cap2, rows2, k1, k2, k3, k4, k5, k6⟩ := h5 k x r hx hr
    refine ⟨iv, e, a2, cap2, rows2, k1, k2, k3, k4, k5, fun h0 => ?_⟩
    obtain ⟨b, off, e, hS, hb, hc⟩ := k6 h0
    exact ⟨b, off, e, ⟨hS, hb⟩, hb, hc⟩
  · obtain ⟨b, off, e, hS, hb, hc⟩ := h6 h0
    exact ⟨b, off, e, ⟨hS, hb⟩, hb, hc⟩
end Go.Hg

namespace Go.Hg
open Go.RowKit Go.ChangeShapes

section
variable {H : Type} {enc : TypeId × Value → H} {P : Program} {W W' : World}
theorem sameAt_grow (hg : Grow W W') {p : MemPlace} (hp : p.block < W.heap.size) : W.sameAt W' p := Below.same hg hp
theorem trodAll_grow {base : Nat} {sp : Nat → Bool} {hd : Bool} (hg : Grow W W') : ∀ {ts : List TypeId} {vs : List Value} {ds : List (DataW H)} {ps : List MemPlace}, DataW.TrodAll enc P W base sp hd ts vs ds ps → DataW.TrodAll enc P W' base sp hd ts vs ds ps
  | [], [], [], _, h => h
  | _ :: _, _ :: _, _ :: _, _, ⟨p, q, ⟨n, h1⟩, h2, e⟩ => ⟨p, q, ⟨n, DataW.trod_carry n _ _ _ h1 (fun x hx => sameAt_grow hg (DataW.trod_lt n _ _ _ h1 x hx))⟩, trodAll_grow hg h2, e⟩
theorem lawPost {f : Func} {s : ChangeSpec} {apart fresh handsOn again : Bool} {args : Array Value} {ds gs : List (DataW H)} {before : List MemPlace} {t : TypeId}
    (K : Kids P (· < P.types.size)) (hz : ∀ t e, t < P.types.size → P.underlying t = some (.slice e) → 0 < P.cellsOf e) (hts : ∀ t ∈ f.params.toList, t < P.types.size)
    (hW : DataW.Whole enc P f.params.toList s.vars apart W args.toList ds gs before) (hv : s.vars = []) (hres : (s.fn H (ds ++ gs)).results = [.lit (.bool true)]) (hargs : (s.fn H (ds ++ gs)).args = ds) (hvars : (s.fn H (ds ++ gs)).vars = [])
    (hrt : f.resultTypes = #[t]) (ht : P.underlying t = some .bool) (hg : Grow W W') : s.post enc P f apart fresh handsOn again W args (.bool true) W' := by
  have hlt := hW.lt
  have hold : ∀ p ∈ before, (fun b => decide (b < W.heap.size)) p.block = true := fun p hp => by simpa using hlt p hp
  have hW2 := hW
  obtain ⟨p, q, h1, h2, e, hfz, hnd⟩ := hW2
  rw [hv] at h2
  obtain ⟨rfl, rfl⟩ : gs = [] ∧ q = [] := by
    cases gs with
    | nil => exact ⟨rfl, h2⟩
    | cons => exact h2.elim
  rw [List.append_nil] at e
  subst e
  have hA : ∀ sp : Nat → Bool, (∀ x ∈ before, sp x.block = true) → DataW.TrodAll enc P W' 0 sp true f.params.toList args.toList (s.fn H (ds ++ [])).args before := fun sp hsp => by
    rw [hargs]
    exact (trodAll_grow hg h1).respare K hz hts hsp
  have hR : ∀ (b : Nat) (sp : Nat → Bool) (hd : Bool), DataW.TrodAll enc P W' b sp hd f.resultTypes.toList ((Value.bool true).resultList f.resultTypes.size) (s.fn H (ds ++ [])).results [] := fun b sp hd => by
    rw [hres, hrt]
    exact ⟨[], [], shut_bool ht true, rfl, rfl⟩
  have hV : ∀ sp : Nat → Bool, DataW.TrodVars enc P W' sp s.vars (s.fn H (ds ++ [])).vars [] := fun sp => by rw [hv, hvars]; rfl
  refine ⟨ds, [], before, [], before, [], hW, hR _ _ _, hA _ hold, hV _, World.keptBut_mono (fun p hp => ⟨hp, ?_⟩) (Below.frame hg (· ∈ before)), fun _ => ?_⟩
  · exact Or.inr (Or.inl hp)
  · refine ⟨ok_one hrt rfl (okWide_bool_mk ht true), _, _, ([] ++ before) ++ [], ⟨[] ++ before, [], trodAll_append (hA _ (fun _ _ => rfl)) (hR _ _ _), hV _, rfl, ?_, ?_⟩, ?_⟩
    · intro b off hp
      have hp' : MemPlace.cell b off ∈ before := by simpa using hp
      rw [Below.frozen hg (p := ⟨b, off, none⟩) (hlt _ hp')]
      exact hfz b off hp'
    · intro ha
      simpa using hnd ha
    · intro p hp _
      simpa using hp
end
end Go.Hg

namespace Go.Hg
open Go.RowKit Go.ChangeShapes Go.WideShapes Go.Deep Go.Proofs

theorem cellsI : Tryz.prog.cellsOf 3 = 1 := by kernel_rfl
theorem cellsStr : Tryz.prog.cellsOf 9 = 1 := by kernel_rfl
section
variable {H : Type} {enc : TypeId × Value → H} {W : World} {base : Nat} {sp : Nat → Bool} {held : Bool}
end
end Go.Hg

namespace Go.Hg
open Go.RowKit Go.ChangeShapes Go.WideShapes Go.Deep Go.Proofs

theorem cellsRule : Tryz.prog.cellsOf 23 = 8 := by kernel_rfl
theorem list8 {α : Type} {l : List α} (h : l.length = 8) : ∃ a b c d e f g i, l = [a, b, c, d, e, f, g, i] := by
  match l, h with
  | [a, b, c, d, e, f, g, i], _ => exact ⟨a, b, c, d, e, f, g, i, rfl⟩

section
variable {H : Type} {enc : TypeId × Value → H} {W : World} {base : Nat} {sp : Nat → Bool} {held : Bool}
end
end Go.Hg

namespace Go.Hg
open Go.RowKit Go.ChangeShapes Go.WideShapes Go.Deep Go.Proofs

section
variable {H : Type} {enc : TypeId × Value → H} {W : World} {base : Nat} {sp : Nat → Bool} {held : Bool}
end
theorem field_eq {H : Type} {enc : TypeId × Value → H} {W : World} {base : Nat} {sp : Nat → Bool} {held : Bool} {t : TypeId} {fs : Array Field} {n : Nat} {cs : List Value} {xs : List (DataW H × List MemPlace)}
    (hf : ∀ (i : Nat) (f : Field), fs[i]? = some f → DataW.trod enc Tryz.prog W base sp held n f.type ((cs.drop f.offset).take (Tryz.prog.cellsOf f.type)) = xs[i]?) (i : Nat) {f : Field} (hi : fs[i]? = some f) (ht : f.type = t) {c o : Nat} (hc : Tryz.prog.cellsOf t = c) (ho : f.offset = o) :
    DataW.trod enc Tryz.prog W base sp held n t ((cs.drop o).take c) = xs[i]? := by
  have h := hf i f hi
  rw [ht, hc, ho] at h
  exact h
def exD : DataW Unit := .agg [.lit (.int .i64 0), .lit (.int .i64 2), .lit (.string [109, 97, 110]), .lit (.string [110, 97, 109, 101]), .lit (.string []), .lit (.string []), .lit (.int .i64 0), .lit (.int .i64 0)]
theorem gEx : Tryz.prog.globalNamed "hedgerow/hedgerowlaw23.exists" = some 0 := by kernel_rfl
theorem tEx : (Tryz.prog.globals[0]?).map (·.type) = some 23 := by kernel_rfl
theorem ba_eq {s : ByteArray} {l : List UInt8} (h : s.data.toList = l) : s = ⟨l.toArray⟩ := by
  subst h
  cases s
  rfl
set_option maxRecDepth 100000 in
theorem exOfLaid {W : World} (h : laidMetH Tryz.prog [("hedgerow/hedgerowlaw23.exists", exD)] W) : ExG W := by
  rw [MakeChecks.laidMetH_plain _ _ _ (by kernel_rfl)] at h
  obtain ⟨ps, ⟨g0, t0, cs0, f0, p0, q0, hg0, ht0, hv0, hd0, -, -⟩, -, -⟩ := h
  obtain rfl := Option.some.inj (gEx.symm.trans hg0)
  obtain rfl := Option.some.inj (tEx.symm.trans ht0)
  have hc : ∀ i, W.cell? ⟨0, i, none⟩ = cs0[i]? := World.var?_cell hg0 hv0
  obtain ⟨xs, m, -, hx, hl, hsz, hf⟩ := DataW.trod_struct Tryz.underlying23 hd0
  rw [cellsRule] at hl
  obtain ⟨c0, c1, c2, c3, c4, c5, c6, c7, hcs⟩ := list8 hl
  rw [hcs] at hf
  have hx1 : DataW.agg (xs.map (·.1)) = exD := (congrArg Prod.fst hx).symm
  unfold exD at hx1
  simp only [DataW.agg.injEq] at hx1
  have hx8 : xs.length = 8 := by simpa using congrArg List.length hx1
  obtain ⟨x0, x1, x2, x3, x4, x5, x6, x7, rfl⟩ := list8 hx8
  simp only [List.map_cons, List.map_nil, List.cons.injEq, and_true] at hx1
  obtain ⟨d0, d1, d2, d3, d4, d5, d6, d7⟩ := hx1
  have h0 := field_eq hf 0 rfl rfl cellsI rfl
  have h1 := field_eq hf 1 rfl rfl cellsI rfl
  have h2 := field_eq hf 2 rfl rfl cellsStr rfl
  have h3 := field_eq hf 3 rfl rfl cellsStr rfl
  have h4 := field_eq hf 4 rfl rfl cellsStr rfl
  have h5 := field_eq hf 5 rfl rfl cellsStr rfl
  have h6 := field_eq hf 6 rfl rfl cellsI rfl
  have h7 := field_eq hf 7 rfl rfl cellsI rfl
  obtain ⟨a0, e0, f0, -⟩ := DataW.trod_int Tryz.underlying3 h0
  obtain ⟨a1, e1, f1, -⟩ := DataW.trod_int Tryz.underlying3 h1
  obtain ⟨a2, e2, f2, -⟩ := DataW.trod_string Tryz.underlying9 h2
  obtain ⟨a3, e3, f3, -⟩ := DataW.trod_string Tryz.underlying9 h3
  obtain ⟨a4, e4, f4, -⟩ := DataW.trod_string Tryz.underlying9 h4
  obtain ⟨a5, e5, f5, -⟩ := DataW.trod_string Tryz.underlying9 h5
  obtain ⟨a6, e6, f6, -⟩ := DataW.trod_int Tryz.underlying3 h6
  obtain ⟨a7, e7, f7, -⟩ := DataW.trod_int Tryz.underlying3 h7
  rw [f0] at d0; rw [f1] at d1; rw [f2] at d2; rw [f3] at d3; rw [f4] at d4; rw [f5] at d5; rw [f6] at d6; rw [f7] at d7
  simp at d0 d1 d2 d3 d4 d5 d6 d7
  simp at e0 e1 e2 e3 e4 e5 e6 e7
  have hca : ∀ i, W.cell? ⟨0, i, none⟩ = [c0, c1, c2, c3, c4, c5, c6, c7][i]? := fun i => by rw [hc i, ← Array.getElem?_toList, hcs]
  subst d0 d1 d6 d7
  refine ⟨World.block_lt_of_cell? W ⟨0, 0, none⟩ (hca 0), ?_, ?_, ?_, ?_, ?_, ?_, ?_, ?_⟩
  · rw [hca 0, e0]; rfl
  · rw [hca 1, e1]; rfl
  · rw [hca 2, e2, ba_eq d2]; rfl
  · rw [hca 3, e3, ba_eq d3]; rfl
  · rw [hca 4, e4, ba_eq (s := a4) (l := []) (by rw [d4])]; rfl
  · rw [hca 5, e5, ba_eq (s := a5) (l := []) (by rw [d5])]; rfl
  · rw [hca 6, e6]; rfl
  · rw [hca 7, e7]; rfl
end Go.Hg
