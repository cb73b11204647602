/- Two graphs side by side, the program's and the reference's; hedgerowlaw17.Same of equal ones; The graph of wakes, of layer 18; hedgerowlaw17.wakes: true; law18.Made: a graph of changes, and the document's; law18.Made as the laws behind it want it; small facts; (dirty.spots).note: what a change touches is counted. Conditions: those that each theorem names. -/
import Derived.WalkKit
import Derived.WalkSpells
import Derived.WalkLawsBesides
import Derived.Lib.Hide
import Derived.BigQuiet
import Derived.Deep.LoopGhost
import Derived.Test.YtanijffgogpmdaaGreatRows
import Derived.Lib.SliceRun
import Derived.WideMake
import Derived.Deep.RegionLaw
import Derived.Lib.Overlaps
import Derived.Deep.RegionHeld3
import Derived.Laws.ResultCell
import Derived.Laws.EntriesVeiled
import Derived.Maps.OwnOps
import Derived.Maps.OwnSet
import Derived.Carry
import Derived.Lib.SlKeysI
import Derived.Maps.RangeWalk
import Derived.Lib.SlMapFilter
import Derived.Deep.DeepCutAuto
import Derived.Shelf.SlIterI.Nil
import Derived.Shelf.SortM.Plain
import Derived.Shelf.SortM.SortNone
import Derived.Shelf.SlMaps.DeleteFunc
import Derived.Shelf.SlSortCmp.WholeK
import Derived.Shelf.SlIterI.Collect
import Derived.RangeFuncBox
import Derived.RangeFuncLeaves
import Derived.RangeFuncWrites
import Derived.Maps.AppendAt
import Derived.Deep.CutBlock
import Derived.Test.YtanijffgogpmdaaGreatDirI
namespace Go.Hg
open Go.RowKit Go.Proofs

def Pair (T1 T2 : TypeId) (w1 w : World) (B1 B2 : Nat) (G1 G2 : PGraph) : Prop :=
  ∃ S1 S2 : Nat → Prop, GraphOk T1 S1 w B1 G1 ∧ GraphOk T2 S2 w B2 G2 ∧ (∀ b, S1 b → ¬ S2 b) ∧ (∀ b, S1 b → w1.heap.size ≤ b ∧ b < w.heap.size) ∧ (∀ b, S2 b → w1.heap.size ≤ b ∧ b < w.heap.size) ∧ Grow w1 w
theorem Pair.grow {T1 T2 : TypeId} {w1 w w' : World} {B1 B2 : Nat} {G1 G2 : PGraph} (h : Pair T1 T2 w1 w B1 B2 G1 G2) (g : Grow w w') : Pair T1 T2 w1 w' B1 B2 G1 G2 := by
  obtain ⟨S1, S2, h1, h2, h3, h4, h5, h6⟩ := h
  exact ⟨S1, S2, h1.grow g, h2.grow g, h3, fun b hb => ⟨(h4 b hb).1, Nat.lt_of_lt_of_le (h4 b hb).2 g.size⟩, fun b hb => ⟨(h5 b hb).1, Nat.lt_of_lt_of_le (h5 b hb).2 g.size⟩, h6.step g⟩
theorem Pair.swap {T1 T2 : TypeId} {w1 w : World} {B1 B2 : Nat} {G1 G2 : PGraph} (h : Pair T1 T2 w1 w B1 B2 G1 G2) : Pair T2 T1 w1 w B2 B1 G2 G1 := by
  obtain ⟨S1, S2, h1, h2, h3, h4, h5, h6⟩ := h
  exact ⟨S2, S1, h2, h1, fun b hb hb' => h3 b hb' hb, h5, h4, h6⟩
theorem Pair.left {T1 T2 : TypeId} {w1 w : World} {B1 B2 : Nat} {G1 G2 : PGraph} (h : Pair T1 T2 w1 w B1 B2 G1 G2) : ∃ S, GraphOk T1 S w B1 G1 := by
  obtain ⟨S1, S2, h1, _⟩ := h
  exact ⟨S1, h1⟩
theorem Pair.grown {T1 T2 : TypeId} {w1 w : World} {B1 B2 : Nat} {G1 G2 : PGraph} (h : Pair T1 T2 w1 w B1 B2 G1 G2) : Grow w1 w := by
  obtain ⟨_, _, _, _, _, _, _, h⟩ := h; exact h
theorem Pair.step1 {T1 T2 : TypeId} {w1 w w' : World} {B1 B2 : Nat} {G2 G3 : PGraph} {S1 S2 : Nat → Prop} (h2 : GraphOk T2 S2 w B2 G2) (h3 : ∀ b, S1 b → ¬ S2 b) (h4 : ∀ b, S1 b → w1.heap.size ≤ b ∧ b < w.heap.size) (h5 : ∀ b, S2 b → w1.heap.size ≤ b ∧ b < w.heap.size) (h6 : Grow w1 w)
    (k1 : GraphOk T1 (fun b => S1 b ∨ w.heap.size ≤ b) w' B1 G3) (k2 : Mod S1 w w') : Pair T1 T2 w1 w' B1 B2 G3 G2 := by
  have hs := k2.size
  have h1s := h6.size
  refine ⟨fun b => (S1 b ∨ w.heap.size ≤ b) ∧ b < w'.heap.size, S2, k1.cut, h2.keep k2 (fun b hb hb' => h3 b hb' hb), fun b hb hb' => hb.1.elim (fun h => h3 b h hb') (fun h => by have := (h5 b hb').2; omega), fun b hb => ⟨hb.1.elim (fun h => (h4 b h).1) (fun h => by omega), hb.2⟩,
    fun b hb => ⟨(h5 b hb).1, by have := (h5 b hb).2; omega⟩, h6.modd k2 (fun b hb => (h4 b hb).1)⟩
theorem Pair.make {T1 T2 : TypeId} {w1 w2 w3 : World} {B1 B2 : Nat} {G1 G2 : PGraph} (h1 : GraphOk T1 (fun b => w1.heap.size ≤ b) w2 B1 G1) (g1 : Grow w1 w2) (h2 : GraphOk T2 (fun b => w2.heap.size ≤ b) w3 B2 G2) (g2 : Grow w2 w3) : Pair T1 T2 w1 w3 B1 B2 G1 G2 := by
  have hs := g1.size; have hs2 := g2.size
  refine ⟨fun b => w1.heap.size ≤ b ∧ b < w2.heap.size, fun b => w2.heap.size ≤ b ∧ b < w3.heap.size, h1.cut.grow g2, h2.cut, fun b hb hb' => by omega, fun b hb => ⟨hb.1, by omega⟩, fun b hb => ⟨by omega, hb.2⟩, g1.step g2⟩

theorem pairDo1 {T2 : TypeId} (SC : Nat → Prop) (B1 B2 : Nat) (G1 G2 : PGraph) (nv ev rv iv : Value) (c : PCat) (o : POp) (w1 w : World) (h : Pair 120 T2 w1 w B1 B2 G1 G2) (hG : GInv G1) (hc : CatR SC w nv ev rv iv c) :
    Calls Tryz.prog 22 #[.pointer (some ⟨B1, 0, none⟩), c.arg nv ev rv iv, o.args] w fun e w' =>
      e = .returned (.tuple #[.int .i64 (if mayG c o G1 = 0 then idG o G1 else 0), .int .i64 (mayG c o G1)]) ∧ Pair 120 T2 w1 w' B1 B2 (stepG c o G1) G2 := by
  obtain ⟨S1, S2, h1, h2, h3, h4, h5, h6⟩ := h
  exact (graphDo S1 SC B1 G1 nv ev rv iv c o w h1 hG hc).mono fun _ _ ⟨k1, k2, k3⟩ => ⟨k1, Pair.step1 h2 h3 h4 h5 h6 k2 k3⟩
theorem pairDo2 {T2 : TypeId} (SC : Nat → Prop) (B1 B2 : Nat) (G1 G2 : PGraph) (nv ev rv iv : Value) (c : PCat) (o : POp) (w1 w : World) (h : Pair T2 55 w1 w B1 B2 G1 G2) (hG : GInv G2) (hc : CatR SC w nv ev rv iv c) :
    Calls Tryz.prog 49 #[.pointer (some ⟨B2, 0, none⟩), c.arg nv ev rv iv, o.args] w fun e w' =>
      e = .returned (.tuple #[.int .i64 (if mayG c o G2 = 0 then idG o G2 else 0), .int .i64 (mayG c o G2)]) ∧ Pair T2 55 w1 w' B1 B2 G1 (stepG c o G2) := by
  obtain ⟨S1, S2, h1, h2, h3, h4, h5, h6⟩ := h
  exact (refDo S2 SC B2 G2 nv ev rv iv c o w h2 hG hc).mono fun _ _ ⟨k1, k2, k3⟩ => ⟨k1, (Pair.step1 h1 (fun b hb hb' => h3 b hb' hb) h5 h4 h6 k2 k3).swap⟩

end Go.Hg

namespace Go.Hg
def madeK (k : Nat) (l : List POp) : PGraph := (l.take k).foldl (fun G o => stepG typesC o G) PGraph.empty
def madeG (l : List POp) : PGraph := madeK 60 l
theorem madeK_succ {l : List POp} {k : Nat} (hk : k < l.length) : madeK (k + 1) l = stepG typesC l[k] (madeK k l) := by
  unfold madeK
  rw [List.take_succ_eq_append_getElem hk, List.foldl_append]
  rfl
theorem madeK_full {l : List POp} {k : Nat} (h : l.length ≤ k ∨ 60 ≤ k) (hk : k ≤ 60) : madeK k l = madeG l := by
  unfold madeG madeK
  rcases h with h | h
  · rw [List.take_of_length_le h, List.take_of_length_le (by omega)]
  · have : k = 60 := by omega
    rw [this]
theorem madeK_inv (l : List POp) (k : Nat) : GInv (madeK k l) := by
  unfold madeK
  generalize l.take k = m
  have key : ∀ (m : List POp) (G : PGraph), GInv G → GInv (m.foldl (fun G o => stepG typesC o G) G) := by
    intro m
    induction m with
    | nil => exact fun G h => h
    | cons a t ih => exact fun G h => ih _ h.stepG
  exact key m _ GInv.empty
end Go.Hg

namespace Go.Hg
open Go.RowKit Go.Proofs

def wo1 : POp := ⟨1, 0, sCity, 0, 0, ByteArray.empty, ⟨0, 0, ByteArray.empty⟩, false⟩
def wG1 : PGraph := ⟨[⟨1, sCity, []⟩], [], 2⟩
theorem wg1 : stepG typesC wo1 PGraph.empty = wG1 := by decide
theorem wi1 : GInv wG1 := wg1 ▸ GInv.empty.stepG
end Go.Hg

namespace Go.Hg
open Go.RowKit Go.Proofs

def MadePost (l : List POp) (w : World) (e : Ending) (w' : World) : Prop :=
  (fairOps l = false ∧ e = .returned (.tuple #[.pointer none, .pointer none, .bool false]) ∧ Grow w w') ∨
  (fairOps l = true ∧ ∃ (B1 B2 : Nat), e = .returned (.tuple #[.pointer (some ⟨B1, 0, none⟩), .pointer (some ⟨B2, 0, none⟩), .bool true]) ∧ Pair 120 55 w w' B1 B2 (madeG l) (madeG l))

set_option maxRecDepth 100000 in
set_option maxHeartbeats 8000000 in
theorem lawMade (S : Nat → Prop) (v : Value) (l : List POp) (w : World) (hl : OpsR S w v l) : Calls Tryz.prog 12 #[v] w (MadePost l w) := by
  have HL := Lib.hid hl
  obtain ⟨aa, ca, rfl, hal, hac, hA⟩ := SlR.open hl
  clear hl
  unfold maxLen at hac
  have HA := Lib.hid hA; clear hA
  go_enter Tryz.func12, Tryz.ntmps12
  go_wp2_with fail
  refine (graphNew _).mono ?_
  rintro e w3 ⟨B1, rfl, hgr, hg3⟩
  have HGR3 := Lib.hid hgr; have HG3 := Lib.hid hg3
  clear hgr hg3
  go_wp2_with fail
  refine (refNew _).mono ?_
  rintro e w4 ⟨B2, rfl, hgr, hg4⟩
  have HPR := Lib.hid (Pair.make HGR3.out HG3.out hgr hg4)
  have HG4 := Lib.hid (HG3.out.step hg4)
  clear hgr hg4 HGR3 HG3
  go_wp2_with fail
  refine (lawFair S _ l _ (HL.out.growS HG4.out)).mono ?_
  rintro e w2 ⟨rfl, hg2⟩
  have HP2 := Lib.hid (HPR.out.grow hg2)
  have HG2 := Lib.hid (HG4.out.step hg2)
  clear hg2 HPR HG4
  cases hf : fairOps l
  · have HF := Lib.hid hf
    clear hf
    go_wp2
    go_ret3
    exact .inl ⟨HF.out, rfl, HG2.out⟩
  have HF := Lib.hid hf
  clear hf
  go_wp2
  go_loopg [7] (l.length + 1) (fun g i wr => ∃ (k : Nat), k ≤ l.length ∧ k ≤ 60 ∧ g = l.length + 1 - k ∧ i = .int .i64 k ∧ Pair 120 55 w wr B1 B2 (madeK k l) (madeK k l))
  case atStart => exact ⟨0, by omega, by omega, by omega, rfl, HP2.out⟩
  case round =>
    obtain ⟨k, hk, hk60, rfl, rfl, hpr⟩ := hrel
    have HP := Lib.hid hpr
    clear hpr HP2
    have HGK := Lib.hid HP.out.grown
    by_cases hkl : k < l.length
    · by_cases hk6 : k < 60
      · have HMK := Lib.hid (madeK_succ hkl)
        have HI := Lib.hid (madeK_inv l k)
        generalize madeK k l = G at *
        obtain ⟨ba, oa, ra, rfl, hSa, hba, hRa, hca⟩ := HA.out k l[k] (List.getElem?_eq_getElem hkl)
        have HS := Lib.hid (show ∀ w', Grow w w' → (w'.cell? ⟨ba, oa + k * 10, none⟩ = some (.int .i64 l[k].kind) ∧ w'.cell? ⟨ba, oa + k * 10 + 1, none⟩ = some (.int .i64 l[k].id) ∧ w'.cell? ⟨ba, oa + k * 10 + 2, none⟩ = some (.string l[k].typ) ∧ w'.cell? ⟨ba, oa + k * 10 + 3, none⟩ = some (.int .i64 l[k].from_) ∧ w'.cell? ⟨ba, oa + k * 10 + 4, none⟩ = some (.int .i64 l[k].to_) ∧ w'.cell? ⟨ba, oa + k * 10 + 5, none⟩ = some (.string l[k].name) ∧ w'.cell? ⟨ba, oa + k * 10 + 6, none⟩ = some (.int .i64 l[k].v.kind) ∧ w'.cell? ⟨ba, oa + k * 10 + 7, none⟩ = some (.int .i64 l[k].v.n) ∧ w'.cell? ⟨ba, oa + k * 10 + 8, none⟩ = some (.string l[k].v.s) ∧ w'.cell? ⟨ba, oa + k * 10 + 9, none⟩ = some (.bool l[k].cascade)) from fun w' hg' => (opCells hRa hba hg' hca).2)
        clear hca hRa hSa hba
        generalize l[k] = o at *
        have HD := Lib.hid (show Grow w wr.drew from HP.out.grown.drewd)
        have HPD := Lib.hid (HP.out.grow ((Grow.rfl' wr).drewd))
        go_wp2_with fail
        go_region_held3 (fun w' => w'.cell? ⟨ba, oa + k * 10, none⟩ = some (.int .i64 o.kind) ∧ w'.cell? ⟨ba, oa + k * 10 + 1, none⟩ = some (.int .i64 o.id) ∧ w'.cell? ⟨ba, oa + k * 10 + 2, none⟩ = some (.string o.typ) ∧ w'.cell? ⟨ba, oa + k * 10 + 3, none⟩ = some (.int .i64 o.from_) ∧ w'.cell? ⟨ba, oa + k * 10 + 4, none⟩ = some (.int .i64 o.to_) ∧ w'.cell? ⟨ba, oa + k * 10 + 5, none⟩ = some (.string o.name) ∧ w'.cell? ⟨ba, oa + k * 10 + 6, none⟩ = some (.int .i64 o.v.kind) ∧ w'.cell? ⟨ba, oa + k * 10 + 7, none⟩ = some (.int .i64 o.v.n) ∧ w'.cell? ⟨ba, oa + k * 10 + 8, none⟩ = some (.string o.v.s) ∧ w'.cell? ⟨ba, oa + k * 10 + 9, none⟩ = some (.bool o.cascade)) (first | exact HS.out _ HD.out | exact HS.out _ HT3.out | exact HS.out _ HP4.out.grown) (first | (go_at_call 23; refine (lawTypes _).mono ?_; rintro e wt3 ⟨nv, ev, rfl, hc, hg3⟩; have HC := Lib.hid hc; have HT3 := Lib.hid (HD.out.step hg3); have HTG3 := Lib.hid hg3; obtain ⟨na, nc, ea, ec, ra, rc, ia, ic, rfl, rfl, -, -⟩ := hc.slices; clear hc hg3) | (go_at_call 22; refine (pairDo1 _ B1 B2 G G _ _ _ _ typesC o w _ (HPD.out.grow HTG3.out) HI.out HC.out).mono ?_; rintro e wd4 ⟨rfl, hp4⟩; have HP4 := Lib.hid hp4; clear hp4; generalize (if mayG typesC o G = 0 then idG o G else 0) = rid; generalize mayG typesC o G = rer))
        have HD5 := Lib.hid (show Grow w wd4.drew from HP4.out.grown.drewd)
        have HPD5 := Lib.hid (HP4.out.grow ((Grow.rfl' wd4).drewd))
        go_wp2_with fail
        go_region_held3 (fun w' => w'.cell? ⟨ba, oa + k * 10, none⟩ = some (.int .i64 o.kind) ∧ w'.cell? ⟨ba, oa + k * 10 + 1, none⟩ = some (.int .i64 o.id) ∧ w'.cell? ⟨ba, oa + k * 10 + 2, none⟩ = some (.string o.typ) ∧ w'.cell? ⟨ba, oa + k * 10 + 3, none⟩ = some (.int .i64 o.from_) ∧ w'.cell? ⟨ba, oa + k * 10 + 4, none⟩ = some (.int .i64 o.to_) ∧ w'.cell? ⟨ba, oa + k * 10 + 5, none⟩ = some (.string o.name) ∧ w'.cell? ⟨ba, oa + k * 10 + 6, none⟩ = some (.int .i64 o.v.kind) ∧ w'.cell? ⟨ba, oa + k * 10 + 7, none⟩ = some (.int .i64 o.v.n) ∧ w'.cell? ⟨ba, oa + k * 10 + 8, none⟩ = some (.string o.v.s) ∧ w'.cell? ⟨ba, oa + k * 10 + 9, none⟩ = some (.bool o.cascade)) (first | exact HS.out _ HD5.out | exact HS.out _ HT5.out | exact HS.out _ HP6.out.grown) (first | (go_at_call 23; refine (lawTypes _).mono ?_; rintro e wt5 ⟨nv, ev, rfl, hc, hg3⟩; have HC := Lib.hid hc; have HT5 := Lib.hid (HD5.out.step hg3); have HTG5 := Lib.hid hg3; obtain ⟨na, nc, ea, ec, ra, rc, ia, ic, rfl, rfl, -, -⟩ := hc.slices; clear hc hg3) | (go_at_call 49; refine (pairDo2 _ B1 B2 (stepG typesC o G) G _ _ _ _ typesC o w _ (HPD5.out.grow HTG5.out) HI.out HC.out).mono ?_; rintro e wd6 ⟨rfl, hp6⟩; have HP6 := Lib.hid hp6; clear hp6; generalize (if mayG typesC o G = 0 then idG o G else 0) = rid2; generalize mayG typesC o G = rer2))
        go_wp2_with fail
        go_roundg (l.length + 1 - (k + 1))
        case measure => omega
        case rel => exact ⟨k + 1, by omega, by omega, rfl, by go_num, by rw [HMK.out]; exact HP6.out⟩
      · have HM := Lib.hid (madeK_full (l := l) (k := k) (.inr (by omega)) hk60)
        go_wp2
        go_ret3
        exact .inr ⟨HF.out, B1, B2, rfl, HM.out ▸ HP.out⟩
    · have HM := Lib.hid (madeK_full (l := l) (k := k) (.inl (by omega)) hk60)
      go_wp2
      go_ret3
      exact .inr ⟨HF.out, B1, B2, rfl, HM.out ▸ HP.out⟩
end Go.Hg

namespace Go.Hg
open Go.RowKit Go.Proofs

theorem opsOwn {w : World} {v : Value} {l : List POp} {ob : Option Nat} (h : OwnS w 44 10 v l.length (l.map POp.cells).flatten ob) : OpsR (fun _ => True) w v l := by
  have h2 : OwnL w 44 10 (fun (o : POp) r => r = o.cells) v l ob := ⟨l.map POp.cells, by simp, fun k x r hx hr => by
    rw [List.getElem?_map, hx] at hr
    simp only [Option.map_some, Option.some.injEq] at hr
    subst hr
    exact ⟨rfl, rfl⟩, h⟩
  exact h2.toSl (fun _ _ => trivial)
end Go.Hg

namespace Go.Hg
open Go.RowKit Go.Proofs MapKept Go.Maps

def NodeGot (G : PGraph) (id : Int) (t : ByteArray) (b : Bool) : Prop := match G.nodes.find? fun x => decide (x.id = id) with | none => b = false | some x => b = true ∧ t = x.typ
def EdgeGot (G : PGraph) (id : Int) (t : ByteArray) (b : Bool) : Prop := match G.edges.find? fun x => decide (x.id = id) with | none => b = false | some x => b = true ∧ t = x.typ
theorem NodePost.got {G : PGraph} {id : Int} {w w' : World} {e : Ending} (h : NodePost G id w e w') : ∃ i t a n c b, e = .returned (.tuple #[.agg #[.int .i64 i, .string t, .slice a n c], .bool b]) ∧ NodeGot G id t b ∧ Grow w w' := by
  obtain ⟨h, g⟩ := h
  rcases h with ⟨h, rfl⟩ | ⟨x, pv, h, rfl, hp⟩
  · exact ⟨_, _, _, _, _, _, rfl, by unfold NodeGot; rw [h], g⟩
  · obtain ⟨a, c, rfl⟩ := hp.isSlice
    exact ⟨_, _, _, _, _, _, rfl, by unfold NodeGot; rw [h]; exact ⟨rfl, rfl⟩, g⟩
theorem EdgePost.got {G : PGraph} {id : Int} {w w' : World} {e : Ending} (h : EdgePost G id w e w') : ∃ i t f o a n c b, e = .returned (.tuple #[.agg #[.int .i64 i, .string t, .int .i64 f, .int .i64 o, .slice a n c], .bool b]) ∧ EdgeGot G id t b ∧ Grow w w' := by
  obtain ⟨h, g⟩ := h
  rcases h with ⟨h, rfl⟩ | ⟨x, pv, h, rfl, hp⟩
  · exact ⟨_, _, _, _, _, _, _, _, rfl, by unfold EdgeGot; rw [h], g⟩
  · obtain ⟨a, c, rfl⟩ := hp.isSlice
    exact ⟨_, _, _, _, _, _, _, _, rfl, by unfold EdgeGot; rw [h]; exact ⟨rfl, rfl⟩, g⟩
def NoteP (Bm n : Nat) (M : List PSpot) (G : PGraph) (o : POp) (w : World) (e : Ending) (w' : World) : Prop :=
  e = .returned (.tuple #[]) ∧ MapK PSpot.args w' Bm (cntK (M ++ noteG G o)) (n + 2 + G.edges.length) ∧ Mod (fun b => b = Bm) w w'
def edSp (l : List PEdge) (id : Int) : List PSpot := (l.filter fun e => atE e id).map fun e => ⟨2, e.typ, ByteArray.empty⟩
theorem edSp_snoc (l : List PEdge) (e : PEdge) (id : Int) : edSp (l ++ [e]) id = if atE e id = true then edSp l id ++ [⟨2, e.typ, ByteArray.empty⟩] else edSp l id := by
  unfold edSp
  rw [List.filter_append]
  by_cases h : atE e id = true
  · simp [h]
  · simp [h]
theorem edSp_len (l : List PEdge) (id : Int) : (edSp l id).length ≤ l.length := by
  unfold edSp
  rw [List.length_map]
  exact List.length_filter_le _ _
theorem opBox (w : World) (o : POp) : OpAt (w.alloc (.cells o.cells.toArray 44)) w.heap.size o := by
  unfold OpAt
  exact heap_alloc_new w _
theorem OpAt.modd {w w' : World} {b Bm : Nat} {o : POp} (h : OpAt w b o) (g : Mod (fun q => q = Bm) w w') (hb : b ≠ Bm) : OpAt w' b o := (g.block b (blk_lt h) hb).trans h
theorem wrapK {M : List PSpot} {y : PSpot} (h : M.length ≤ 1000000) : IntKind.i64.wrap ((M.count y : Int) + 1) = (M.count y : Int) + 1 := by
  have h1 := List.count_le_length (a := y) (l := M)
  rw [IntKind.wrap_i64] <;> omega
def REdge0 (x : PEdge) (r : List Value) : Prop := ∃ a n c, r = [.int .i64 x.id, .string x.typ, .int .i64 x.from_, .int .i64 x.to_, .slice a n c]
theorem redge0 {S : Nat → Prop} {w : World} {x : PEdge} {r : List Value} (h : REdge S w x r) : REdge0 x r := by
  obtain ⟨pv, rfl, hp⟩ := h
  obtain ⟨a, c, rfl⟩ := hp.isSlice
  exact ⟨_, _, _, rfl⟩
theorem noteG_1 (G : PGraph) (id : Int) (typ : ByteArray) (from_ to_ : Int) (name : ByteArray) (v : PVal) (b : Bool) : noteG G ⟨1, id, typ, from_, to_, name, v, b⟩ = [⟨1, typ, ByteArray.empty⟩] := by
  unfold noteG; rw [if_pos rfl]
theorem noteG_3 (G : PGraph) (id : Int) (typ : ByteArray) (from_ to_ : Int) (name : ByteArray) (v : PVal) (b : Bool) : noteG G ⟨3, id, typ, from_, to_, name, v, b⟩ = [⟨2, typ, ByteArray.empty⟩] := by
  unfold noteG; rw [if_neg (by simp), if_pos rfl]
theorem noteG_2 {G : PGraph} {id : Int} {typ : ByteArray} {from_ to_ : Int} {name : ByteArray} {v : PVal} {b : Bool} {t : ByteArray} {bn : Bool} (h : NodeGot G id t bn) (hn : hasN G id = true) : noteG G ⟨2, id, typ, from_, to_, name, v, b⟩ = [⟨1, t, ByteArray.empty⟩] ++ edSp G.edges id := by
  unfold noteG; rw [if_neg (by simp), if_neg (by simp), if_pos rfl]
  unfold NodeGot at h
  unfold hasN at hn
  obtain ⟨x, hx, hd⟩ := List.any_eq_true.1 hn
  obtain ⟨y, hy, -, -⟩ := find_some_of (p := fun x : PNode => decide (x.id = id)) hx hd
  rw [hy] at h ⊢
  obtain ⟨-, rfl⟩ := h
  rfl
theorem noteG_4 {G : PGraph} {id : Int} {typ : ByteArray} {from_ to_ : Int} {name : ByteArray} {v : PVal} {b : Bool} {t : ByteArray} {bn : Bool} (h : EdgeGot G id t bn) (hn : hasE G id = true) : noteG G ⟨4, id, typ, from_, to_, name, v, b⟩ = [⟨2, t, ByteArray.empty⟩] := by
  unfold noteG; rw [if_neg (by simp), if_neg (by simp), if_neg (by simp), if_pos rfl]
  unfold EdgeGot at h
  unfold hasE at hn
  obtain ⟨x, hx, hd⟩ := List.any_eq_true.1 hn
  obtain ⟨y, hy, -, -⟩ := find_some_of (p := fun x : PEdge => decide (x.id = id)) hx hd
  rw [hy] at h ⊢
  obtain ⟨-, rfl⟩ := h
  rfl
theorem noteG_5 {G : PGraph} {id : Int} {typ : ByteArray} {from_ to_ : Int} {name : ByteArray} {v : PVal} {b : Bool} {tn te : ByteArray} {bn be : Bool} (hn : NodeGot G id tn bn) (he : EdgeGot G id te be) : noteG G ⟨5, id, typ, from_, to_, name, v, b⟩ = (if bn = true then [⟨1, tn, name⟩] else []) ++ (if be = true then [⟨2, te, name⟩] else []) := by
  unfold noteG; rw [if_neg (by simp), if_neg (by simp), if_neg (by simp), if_neg (by simp), if_pos rfl]
  unfold NodeGot at hn
  unfold EdgeGot at he
  show (match (G.nodes.find? fun x => decide (x.id = id)) with | some n => [PSpot.mk 1 n.typ name] | none => []) ++ (match (G.edges.find? fun x => decide (x.id = id)) with | some e => [PSpot.mk 2 e.typ name] | none => []) = _
  congr 1
  · cases hf : (G.nodes.find? fun x => decide (x.id = id)) with
    | none => rw [hf] at hn; have hn' : bn = false := hn; subst hn'; rfl
    | some x => rw [hf] at hn; obtain ⟨rfl, rfl⟩ := hn; rfl
  · cases hf : (G.edges.find? fun x => decide (x.id = id)) with
    | none => rw [hf] at he; have he' : be = false := he; subst he'; rfl
    | some x => rw [hf] at he; obtain ⟨rfl, rfl⟩ := he; rfl

set_option maxRecDepth 100000 in
set_option maxHeartbeats 8000000 in
theorem note1 (S : Nat → Prop) (Bm B n : Nat) (M : List PSpot) (G : PGraph) (c : PCat) (o : POp) (w : World) (h : GraphOk 120 S w B G) (hG : GInv G) (hm : mayG c o G = 0) (hmk : MapK PSpot.args w Bm (cntK M) n) (hM : M.length ≤ 100000) (hS : ¬ S Bm) (hk : o.kind = 1) :
    Calls Tryz.prog 86 #[.map (some Bm), .pointer (some ⟨B, 0, none⟩), o.args] w (NoteP Bm n M G o w) := by
  have HOK := Lib.hid h; have HI := Lib.hid hG; have HMK := Lib.hid hmk; have HML := Lib.hid hM; have HS := Lib.hid hS
  obtain ⟨kind, id, typ, from_, to_, name, v, cascade⟩ := o
  subst hk
  have HM := Lib.hid hm
  have HW := Lib.hid (show ∀ o1, Grow w (w.alloc o1) from fun o1 => (Grow.rfl' w).allocd o1)
  have HBX := Lib.hid (opBox w ⟨1, id, typ, from_, to_, name, v, cascade⟩)
  have hbm := hmk.lt
  have HB1 := Lib.hid (show G.nodes.length ≤ 1099511627776 ∧ G.edges.length ≤ 1099511627776 by have := hG.items; omega)
  have HB2 := Lib.hid (show ∀ x ∈ G.nodes, x.props.length ≤ 1099511627776 from fun x hx => by have := (hG.nodesB x hx).2.2; omega)
  have HB3 := Lib.hid (show ∀ x ∈ G.edges, x.props.length ≤ 1099511627776 from fun x hx => by have := (hG.edgesB x hx).2.2; omega)
  clear h hG hm hmk hM hS
  go_enter Tryz.func86, Tryz.ntmps86
  go_wp2_with fail
  refine (graphGetNode S B G id _ (HOK.out.grow (HW.out _)).rd HI.out.nodes HB1.out.1 HB2.out).mono ?_
  rintro e w2 h2
  obtain ⟨i2, t2, a2, n2, c2, b2, rfl, hgot, g2⟩ := h2.got
  have HN := Lib.hid hgot
  have HG2 := Lib.hid ((HW.out _).step g2)
  have HOP2 := Lib.hid (HBX.out.grow g2)
  clear g2 hgot h2
  obtain ⟨hl2, p0, p1, -⟩ := HOP2.out.at
  have HW2 := Lib.hid (show ∀ o1, Grow w2 (w2.alloc o1) from fun o1 => (Grow.rfl' w2).allocd o1)
  have HNB := Lib.hid (heap_alloc_new w2 (.cells #[.int .i64 i2, .string t2, .slice a2 n2 c2] 94))
  go_wp2_with fail
  refine (graphGetEdge S B G id _ (HOK.out.grow (HG2.out.step (HW2.out _))).rd HI.out.edges HB1.out.2 HB3.out).mono ?_
  rintro e w3 h3
  obtain ⟨i3, t3, f3, o3, a3, n3, c3, b3, rfl, hgot, g3⟩ := h3.got
  have HE := Lib.hid hgot
  have HG3 := Lib.hid (HG2.out.step ((HW2.out _).step g3))
  have HOP3 := Lib.hid (HOP2.out.grow ((HW2.out _).step g3))
  have HNB3 := Lib.hid ((g3.heapEq (blk_lt HNB.out)).trans HNB.out)
  have HL3 := Lib.hid (show w2.heap.size + 1 ≤ w3.heap.size by have := g3.size; simpa using this)
  clear g3 hgot h3 p0 p1 hl2
  obtain ⟨hl3, p0, -⟩ := HOP3.out.at
  have HW3 := Lib.hid (show ∀ o1, Grow w3 (w3.alloc o1) from fun o1 => (Grow.rfl' w3).allocd o1)
  obtain ⟨W4, hW4⟩ : ∃ W4, w3.alloc (.cells #[.int .i64 i3, .string t3, .int .i64 f3, .int .i64 o3, .slice a3 n3 c3] 98) = W4 := ⟨_, rfl⟩
  have HEB4 := Lib.hid (show W4.heap[w3.heap.size]? = some (.cells #[.int .i64 i3, .string t3, .int .i64 f3, .int .i64 o3, .slice a3 n3 c3] 98 (0, 0)) from hW4 ▸ heap_alloc_new w3 _)
  have HG34 := Lib.hid (show Grow w3 W4 from hW4 ▸ HW3.out _)
  have HG4 := Lib.hid (HG3.out.step HG34.out)
  have HBM := Lib.hid (show Bm < w.heap.size from hbm)
  have HSZ := Lib.hid (show w.heap.size ≤ w2.heap.size ∧ w2.heap.size < w3.heap.size ∧ w3.heap.size < W4.heap.size from ⟨HG2.out.size, HL3.out, blk_lt HEB4.out⟩)
  have HOPm := Lib.hid (show ∀ w', Mod (fun q => q = Bm) W4 w' → OpAt w' w.heap.size ⟨1, id, typ, from_, to_, name, v, cascade⟩ from fun w' g => (HOP3.out.grow HG34.out).modd g (by have := HBM.out; omega))
  have HNBm := Lib.hid (show ∀ w', Mod (fun q => q = Bm) W4 w' → w'.heap[w2.heap.size]? = some (.cells #[.int .i64 i2, .string t2, .slice a2 n2 c2] 94 (0, 0)) from fun w' g => (g.block _ (by have := HSZ.out; omega) (by have := HSZ.out; have := HBM.out; omega)).trans ((HG34.out.heapEq HSZ.out.2.1).trans HNB3.out))
  have HEBm := Lib.hid (show ∀ w', Mod (fun q => q = Bm) W4 w' → w'.heap[w3.heap.size]? = some (.cells #[.int .i64 i3, .string t3, .int .i64 f3, .int .i64 o3, .slice a3 n3 c3] 98 (0, 0)) from fun w' g => (g.block _ (by have := HSZ.out; omega) (by have := HSZ.out; have := HBM.out; omega)).trans HEB4.out)
  have HM4 := Lib.hid (show MapK PSpot.args W4.drew Bm (cntK M) n from HMK.out.grow (HG4.out.drewd))
  have HD4 := Lib.hid (show Mod (fun q => q = Bm) W4 W4.drew from Mod.of_grow ((Grow.rfl' W4).drewd))
  have HW4e := Lib.hid hW4
  clear hbm hW4
  have HWR := Lib.hid (wrapK (M := M) (y := (PSpot.mk 1 typ ByteArray.empty)) (by have := HML.out; omega))
  go_wp2_with fail
  rw [HW4e.out]
  clear HW4e p0 hl3
  refine wp_region_noPanic ?_
  refine wp_region_held_drew (S := fun w' => w'.cell? ⟨w.heap.size, 2, none⟩ = some (.string typ)) (by kernel_rfl) ?_ (fun hHeld => ?_)
  · exact ((HOPm.out _ HD4.out).at).2.2.2.1
  refine' wpAnyH_take (i := 0) (oi := ?o1) (v := _) (by simp only [List.getElem?_toArray, List.getElem?_cons_zero]; rfl) (by kernel_rfl) (by kernel_rfl) (by kernel_rfl) (fun _ _ _ h => h) (Or.inl ⟨by rfl, ?y1⟩) (by assumption) ?r1
  case y1 =>
    intro wS hSw
    try dsimp only at hSw
    go_simp
    all_goals with_reducible rfl
  simp only [Act.put, List.setIfInBounds_toArray, List.set_cons_zero, List.set_cons_succ]
  refine' wpAnyH_take (i := 1) (oi := ?o2) (v := _) (by simp only [List.getElem?_toArray, List.getElem?_cons_succ, List.getElem?_cons_zero]; rfl) (by kernel_rfl) (by kernel_rfl) (by kernel_rfl) (fun _ _ _ h => h) (Or.inl ⟨by rfl, ?y2⟩) (by assumption) ?r2
  case y2 =>
    intro wS hSw
    try dsimp only at hSw
    go_simp
    all_goals with_reducible rfl
  simp only [Act.put, List.setIfInBounds_toArray, List.set_cons_zero, List.set_cons_succ]
  refine' wpAnyH_take (i := 2) (oi := ?o3) (v := _) (by simp only [List.getElem?_toArray, List.getElem?_cons_succ, List.getElem?_cons_zero]; rfl) (by kernel_rfl) (by kernel_rfl) (by kernel_rfl) (fun _ _ _ h => h) (Or.inl ⟨by rfl, ?y3⟩) (by assumption) ?r3
  case y3 =>
    intro wS hSw
    try dsimp only at hSw
    go_simp
    all_goals with_reducible rfl
  simp only [Act.put, List.setIfInBounds_toArray, List.set_cons_zero, List.set_cons_succ]
  refine' wpAnyH_take (i := 3) (oi := ?o4) (v := _) (by simp only [List.getElem?_toArray, List.getElem?_cons_succ, List.getElem?_cons_zero]; rfl) (by kernel_rfl) (by kernel_rfl) (by kernel_rfl) (fun _ _ _ h => h) (Or.inl ⟨by rfl, ?y4⟩) (by assumption) ?r4
  case y4 =>
    intro wS hSw
    try dsimp only at hSw
    go_simp
    all_goals with_reducible rfl
  simp only [Act.put, List.setIfInBounds_toArray, List.set_cons_zero, List.set_cons_succ]
  refine wpAnyH_ready (rs := [4, 6]) (by kernel_rfl) (by simp) ?_
  refine' AllReadyH.cons (o := ?o5) (by simp only [List.getElem?_toArray, List.getElem?_cons_succ, List.getElem?_cons_zero]; rfl) (fun K hK => ?s5) ?m5
  rotate_left
  · refine' AllReadyH.cons (o := ?o6) (by simp only [List.getElem?_toArray, List.getElem?_cons_succ, List.getElem?_cons_zero]; rfl) (fun K hK => ?s6) ?m6
    case m6 => exact AllReadyH.nil
    refine step_entryK rfl (.tmp 30) (.tmp 33) 148 rfl 136 3 Tryz.underlying148 keySpot (.int .i64 0) zeroIntV (by rfl) HM4.out (PSpot.mk 1 typ ByteArray.empty) (by rfl) _ (cntK_getD _ (PSpot.mk 1 typ ByteArray.empty)) ?_
    intro w5 s5 q1 q2 q3 q4
    refine hK.out _ _ ?_ (fun hHeld => ?_)
    · exact ((HOPm.out w5 (HD4.out.step q3)).at).2.2.2.1
    clear hK K
    try simp only [Act.put, List.setIfInBounds_toArray, List.set_cons_zero, List.set_cons_succ]
    refine' wpAnyH_take (i := 7) (oi := ?o7) (v := _) (by simp only [List.getElem?_toArray, List.getElem?_cons_succ, List.getElem?_cons_zero]; rfl) (by kernel_rfl) (by kernel_rfl) (by kernel_rfl) (fun _ _ _ h => h) (Or.inl ⟨by rfl, ?y7⟩) (by assumption) ?r7
    case y7 =>
      intro wS hSw
      try dsimp only at hSw
      go_simp
      all_goals with_reducible rfl
    simp only [Act.put, List.setIfInBounds_toArray, List.set_cons_zero, List.set_cons_succ]
    refine wpAnyH_ready (rs := [4]) (by kernel_rfl) (by simp) ?_
    refine' AllReadyH.cons (o := ?o8) (by simp only [List.getElem?_toArray, List.getElem?_cons_succ, List.getElem?_cons_zero]; rfl) (fun K hK => ?s8) ?m8
    case m8 => exact AllReadyH.nil
    refine step_lookK rfl (.tmp 30) (.tmp 33) 148 rfl 136 3 Tryz.underlying148 keySpot (.int .i64 0) (zeroIntV _) (by rfl) q1 (PSpot.mk 1 typ ByteArray.empty) (by rfl) (.int .i64 ((M).count (PSpot.mk 1 typ ByteArray.empty) : Int)) (by rw [kput_same]; rfl) ?_
    refine hK.out _ _ ?_ (fun hHeld => ?_)
    · exact ((HOPm.out w5 (HD4.out.step q3)).at).2.2.2.1
    clear hK K
    try simp only [Act.put, List.setIfInBounds_toArray, List.set_cons_zero, List.set_cons_succ]
    refine' wpAnyH_take (i := 5) (oi := ?o9) (v := _) (by simp only [List.getElem?_toArray, List.getElem?_cons_succ, List.getElem?_cons_zero]; rfl) (by kernel_rfl) (by kernel_rfl) (by kernel_rfl) (fun _ _ _ h => h) (Or.inl ⟨by rfl, ?y9⟩) (by assumption) ?r9
    case y9 =>
      intro wS hSw
      try dsimp only at hSw
      go_simp
      all_goals with_reducible rfl
    simp only [Act.put, List.setIfInBounds_toArray, List.set_cons_zero, List.set_cons_succ]
    refine wpAnyH_ready (rs := [8]) (by kernel_rfl) (by simp) ?_
    refine' AllReadyH.cons (o := ?o10) (by simp only [List.getElem?_toArray, List.getElem?_cons_succ, List.getElem?_cons_zero]; rfl) (fun K hK => ?s10) ?m10
    case m10 => exact AllReadyH.nil
    refine step_storeK rfl (.tmp 30) (.tmp 37) (.tmp 35) 148 rfl 136 keySpot (by rfl) q1 (PSpot.mk 1 typ ByteArray.empty) s5 (by rfl) q2 (.int .i64 (((M).count (PSpot.mk 1 typ ByteArray.empty) : Int) + 1)) (by simp [Act.eval, HWR.out]) ?_
    intro w6 p1 p3 p4
    rw [kput_twice, ← kput_twice _ _ (.int .i64 0), cntK_step] at p1
    refine hK.out _ _ ?_ (fun hHeld => ?_)
    · exact ((HOPm.out w6 (HD4.out.step (q3.step p3))).at).2.2.2.1
    clear hK K
    try simp only [Act.put]
    refine wpAnyH_done (by kernel_rfl) ?_ _
    refine NoPanic.normal ?_
    have HM6 := Lib.hid p1
    have HD6 := Lib.hid ((Mod.of_grow HG4.out).step (HD4.out.step (q3.step p3)))
    clear q1 q2 q3 q4 p1 p3 p4
    go_wp2
    go_end0
    exact ⟨rfl, by rw [noteG_1 G id typ from_ to_ name v cascade]; exact HM6.out.mono (by omega), HD6.out⟩
  refine step_lookK rfl (.tmp 30) (.tmp 33) 148 rfl 136 3 Tryz.underlying148 keySpot (.int .i64 0) (zeroIntV _) (by rfl) HM4.out (PSpot.mk 1 typ ByteArray.empty) (by rfl) _ (cntK_getD _ (PSpot.mk 1 typ ByteArray.empty)) ?_
  refine hK.out _ _ ?_ (fun hHeld => ?_)
  · exact ((HOPm.out _ HD4.out).at).2.2.2.1
  clear hK K
  try simp only [Act.put, List.setIfInBounds_toArray, List.set_cons_zero, List.set_cons_succ]
  refine' wpAnyH_take (i := 5) (oi := ?o11) (v := _) (by simp only [List.getElem?_toArray, List.getElem?_cons_succ, List.getElem?_cons_zero]; rfl) (by kernel_rfl) (by kernel_rfl) (by kernel_rfl) (fun _ _ _ h => h) (Or.inl ⟨by rfl, ?y11⟩) (by assumption) ?r11
  case y11 =>
    intro wS hSw
    try dsimp only at hSw
    go_simp
    all_goals with_reducible rfl
  simp only [Act.put, List.setIfInBounds_toArray, List.set_cons_zero, List.set_cons_succ]
  refine wpAnyH_ready (rs := [6]) (by kernel_rfl) (by simp) ?_
  refine' AllReadyH.cons (o := ?o12) (by simp only [List.getElem?_toArray, List.getElem?_cons_succ, List.getElem?_cons_zero]; rfl) (fun K hK => ?s12) ?m12
  case m12 => exact AllReadyH.nil
  refine step_entryK rfl (.tmp 30) (.tmp 33) 148 rfl 136 3 Tryz.underlying148 keySpot (.int .i64 0) zeroIntV (by rfl) HM4.out (PSpot.mk 1 typ ByteArray.empty) (by rfl) _ (cntK_getD _ (PSpot.mk 1 typ ByteArray.empty)) ?_
  intro w5 s5 q1 q2 q3 q4
  refine hK.out _ _ ?_ (fun hHeld => ?_)
  · exact ((HOPm.out w5 (HD4.out.step q3)).at).2.2.2.1
  clear hK K
  try simp only [Act.put, List.setIfInBounds_toArray, List.set_cons_zero, List.set_cons_succ]
  refine' wpAnyH_take (i := 7) (oi := ?o13) (v := _) (by simp only [List.getElem?_toArray, List.getElem?_cons_succ, List.getElem?_cons_zero]; rfl) (by kernel_rfl) (by kernel_rfl) (by kernel_rfl) (fun _ _ _ h => h) (Or.inl ⟨by rfl, ?y13⟩) (by assumption) ?r13
  case y13 =>
    intro wS hSw
    try dsimp only at hSw
    go_simp
    all_goals with_reducible rfl
  simp only [Act.put, List.setIfInBounds_toArray, List.set_cons_zero, List.set_cons_succ]
  refine wpAnyH_ready (rs := [8]) (by kernel_rfl) (by simp) ?_
  refine' AllReadyH.cons (o := ?o14) (by simp only [List.getElem?_toArray, List.getElem?_cons_succ, List.getElem?_cons_zero]; rfl) (fun K hK => ?s14) ?m14
  case m14 => exact AllReadyH.nil
  refine step_storeK rfl (.tmp 30) (.tmp 37) (.tmp 35) 148 rfl 136 keySpot (by rfl) q1 (PSpot.mk 1 typ ByteArray.empty) s5 (by rfl) q2 (.int .i64 (((M).count (PSpot.mk 1 typ ByteArray.empty) : Int) + 1)) (by simp [Act.eval, HWR.out]) ?_
  intro w6 p1 p3 p4
  rw [kput_twice, ← kput_twice _ _ (.int .i64 0), cntK_step] at p1
  refine hK.out _ _ ?_ (fun hHeld => ?_)
  · exact ((HOPm.out w6 (HD4.out.step (q3.step p3))).at).2.2.2.1
  clear hK K
  try simp only [Act.put]
  refine wpAnyH_done (by kernel_rfl) ?_ _
  refine NoPanic.normal ?_
  have HM6 := Lib.hid p1
  have HD6 := Lib.hid ((Mod.of_grow HG4.out).step (HD4.out.step (q3.step p3)))
  clear q1 q2 q3 q4 p1 p3 p4
  go_wp2
  go_end0
  exact ⟨rfl, by rw [noteG_1 G id typ from_ to_ name v cascade]; exact HM6.out.mono (by omega), HD6.out⟩

set_option maxRecDepth 100000 in
set_option maxHeartbeats 8000000 in
theorem note3 (S : Nat → Prop) (Bm B n : Nat) (M : List PSpot) (G : PGraph) (c : PCat) (o : POp) (w : World) (h : GraphOk 120 S w B G) (hG : GInv G) (hm : mayG c o G = 0) (hmk : MapK PSpot.args w Bm (cntK M) n) (hM : M.length ≤ 100000) (hS : ¬ S Bm) (hk : o.kind = 3) :
    Calls Tryz.prog 86 #[.map (some Bm), .pointer (some ⟨B, 0, none⟩), o.args] w (NoteP Bm n M G o w) := by
  have HOK := Lib.hid h; have HI := Lib.hid hG; have HMK := Lib.hid hmk; have HML := Lib.hid hM; have HS := Lib.hid hS
  obtain ⟨kind, id, typ, from_, to_, name, v, cascade⟩ := o
  subst hk
  have HM := Lib.hid hm
  have HW := Lib.hid (show ∀ o1, Grow w (w.alloc o1) from fun o1 => (Grow.rfl' w).allocd o1)
  have HBX := Lib.hid (opBox w ⟨3, id, typ, from_, to_, name, v, cascade⟩)
  have hbm := hmk.lt
  have HB1 := Lib.hid (show G.nodes.length ≤ 1099511627776 ∧ G.edges.length ≤ 1099511627776 by have := hG.items; omega)
  have HB2 := Lib.hid (show ∀ x ∈ G.nodes, x.props.length ≤ 1099511627776 from fun x hx => by have := (hG.nodesB x hx).2.2; omega)
  have HB3 := Lib.hid (show ∀ x ∈ G.edges, x.props.length ≤ 1099511627776 from fun x hx => by have := (hG.edgesB x hx).2.2; omega)
  clear h hG hm hmk hM hS
  go_enter Tryz.func86, Tryz.ntmps86
  go_wp2_with fail
  refine (graphGetNode S B G id _ (HOK.out.grow (HW.out _)).rd HI.out.nodes HB1.out.1 HB2.out).mono ?_
  rintro e w2 h2
  obtain ⟨i2, t2, a2, n2, c2, b2, rfl, hgot, g2⟩ := h2.got
  have HN := Lib.hid hgot
  have HG2 := Lib.hid ((HW.out _).step g2)
  have HOP2 := Lib.hid (HBX.out.grow g2)
  clear g2 hgot h2
  obtain ⟨hl2, p0, p1, -⟩ := HOP2.out.at
  have HW2 := Lib.hid (show ∀ o1, Grow w2 (w2.alloc o1) from fun o1 => (Grow.rfl' w2).allocd o1)
  have HNB := Lib.hid (heap_alloc_new w2 (.cells #[.int .i64 i2, .string t2, .slice a2 n2 c2] 94))
  go_wp2_with fail
  refine (graphGetEdge S B G id _ (HOK.out.grow (HG2.out.step (HW2.out _))).rd HI.out.edges HB1.out.2 HB3.out).mono ?_
  rintro e w3 h3
  obtain ⟨i3, t3, f3, o3, a3, n3, c3, b3, rfl, hgot, g3⟩ := h3.got
  have HE := Lib.hid hgot
  have HG3 := Lib.hid (HG2.out.step ((HW2.out _).step g3))
  have HOP3 := Lib.hid (HOP2.out.grow ((HW2.out _).step g3))
  have HNB3 := Lib.hid ((g3.heapEq (blk_lt HNB.out)).trans HNB.out)
  have HL3 := Lib.hid (show w2.heap.size + 1 ≤ w3.heap.size by have := g3.size; simpa using this)
  clear g3 hgot h3 p0 p1 hl2
  obtain ⟨hl3, p0, -⟩ := HOP3.out.at
  have HW3 := Lib.hid (show ∀ o1, Grow w3 (w3.alloc o1) from fun o1 => (Grow.rfl' w3).allocd o1)
  obtain ⟨W4, hW4⟩ : ∃ W4, w3.alloc (.cells #[.int .i64 i3, .string t3, .int .i64 f3, .int .i64 o3, .slice a3 n3 c3] 98) = W4 := ⟨_, rfl⟩
  have HEB4 := Lib.hid (show W4.heap[w3.heap.size]? = some (.cells #[.int .i64 i3, .string t3, .int .i64 f3, .int .i64 o3, .slice a3 n3 c3] 98 (0, 0)) from hW4 ▸ heap_alloc_new w3 _)
  have HG34 := Lib.hid (show Grow w3 W4 from hW4 ▸ HW3.out _)
  have HG4 := Lib.hid (HG3.out.step HG34.out)
  have HBM := Lib.hid (show Bm < w.heap.size from hbm)
  have HSZ := Lib.hid (show w.heap.size ≤ w2.heap.size ∧ w2.heap.size < w3.heap.size ∧ w3.heap.size < W4.heap.size from ⟨HG2.out.size, HL3.out, blk_lt HEB4.out⟩)
  have HOPm := Lib.hid (show ∀ w', Mod (fun q => q = Bm) W4 w' → OpAt w' w.heap.size ⟨3, id, typ, from_, to_, name, v, cascade⟩ from fun w' g => (HOP3.out.grow HG34.out).modd g (by have := HBM.out; omega))
  have HNBm := Lib.hid (show ∀ w', Mod (fun q => q = Bm) W4 w' → w'.heap[w2.heap.size]? = some (.cells #[.int .i64 i2, .string t2, .slice a2 n2 c2] 94 (0, 0)) from fun w' g => (g.block _ (by have := HSZ.out; omega) (by have := HSZ.out; have := HBM.out; omega)).trans ((HG34.out.heapEq HSZ.out.2.1).trans HNB3.out))
  have HEBm := Lib.hid (show ∀ w', Mod (fun q => q = Bm) W4 w' → w'.heap[w3.heap.size]? = some (.cells #[.int .i64 i3, .string t3, .int .i64 f3, .int .i64 o3, .slice a3 n3 c3] 98 (0, 0)) from fun w' g => (g.block _ (by have := HSZ.out; omega) (by have := HSZ.out; have := HBM.out; omega)).trans HEB4.out)
  have HM4 := Lib.hid (show MapK PSpot.args W4.drew Bm (cntK M) n from HMK.out.grow (HG4.out.drewd))
  have HD4 := Lib.hid (show Mod (fun q => q = Bm) W4 W4.drew from Mod.of_grow ((Grow.rfl' W4).drewd))
  have HW4e := Lib.hid hW4
  clear hbm hW4
  have HWR := Lib.hid (wrapK (M := M) (y := (PSpot.mk 2 typ ByteArray.empty)) (by have := HML.out; omega))
  go_wp2_with fail
  rw [HW4e.out]
  clear HW4e p0 hl3
  refine wp_region_noPanic ?_
  refine wp_region_held_drew (S := fun w' => w'.cell? ⟨w.heap.size, 2, none⟩ = some (.string typ)) (by kernel_rfl) ?_ (fun hHeld => ?_)
  · exact ((HOPm.out _ HD4.out).at).2.2.2.1
  refine' wpAnyH_take (i := 0) (oi := ?o15) (v := _) (by simp only [List.getElem?_toArray, List.getElem?_cons_zero]; rfl) (by kernel_rfl) (by kernel_rfl) (by kernel_rfl) (fun _ _ _ h => h) (Or.inl ⟨by rfl, ?y15⟩) (by assumption) ?r15
  case y15 =>
    intro wS hSw
    try dsimp only at hSw
    go_simp
    all_goals with_reducible rfl
  simp only [Act.put, List.setIfInBounds_toArray, List.set_cons_zero, List.set_cons_succ]
  refine' wpAnyH_take (i := 1) (oi := ?o16) (v := _) (by simp only [List.getElem?_toArray, List.getElem?_cons_succ, List.getElem?_cons_zero]; rfl) (by kernel_rfl) (by kernel_rfl) (by kernel_rfl) (fun _ _ _ h => h) (Or.inl ⟨by rfl, ?y16⟩) (by assumption) ?r16
  case y16 =>
    intro wS hSw
    try dsimp only at hSw
    go_simp
    all_goals with_reducible rfl
  simp only [Act.put, List.setIfInBounds_toArray, List.set_cons_zero, List.set_cons_succ]
  refine' wpAnyH_take (i := 2) (oi := ?o17) (v := _) (by simp only [List.getElem?_toArray, List.getElem?_cons_succ, List.getElem?_cons_zero]; rfl) (by kernel_rfl) (by kernel_rfl) (by kernel_rfl) (fun _ _ _ h => h) (Or.inl ⟨by rfl, ?y17⟩) (by assumption) ?r17
  case y17 =>
    intro wS hSw
    try dsimp only at hSw
    go_simp
    all_goals with_reducible rfl
  simp only [Act.put, List.setIfInBounds_toArray, List.set_cons_zero, List.set_cons_succ]
  refine' wpAnyH_take (i := 3) (oi := ?o18) (v := _) (by simp only [List.getElem?_toArray, List.getElem?_cons_succ, List.getElem?_cons_zero]; rfl) (by kernel_rfl) (by kernel_rfl) (by kernel_rfl) (fun _ _ _ h => h) (Or.inl ⟨by rfl, ?y18⟩) (by assumption) ?r18
  case y18 =>
    intro wS hSw
    try dsimp only at hSw
    go_simp
    all_goals with_reducible rfl
  simp only [Act.put, List.setIfInBounds_toArray, List.set_cons_zero, List.set_cons_succ]
  refine wpAnyH_ready (rs := [4, 6]) (by kernel_rfl) (by simp) ?_
  refine' AllReadyH.cons (o := ?o19) (by simp only [List.getElem?_toArray, List.getElem?_cons_succ, List.getElem?_cons_zero]; rfl) (fun K hK => ?s19) ?m19
  rotate_left
  · refine' AllReadyH.cons (o := ?o20) (by simp only [List.getElem?_toArray, List.getElem?_cons_succ, List.getElem?_cons_zero]; rfl) (fun K hK => ?s20) ?m20
    case m20 => exact AllReadyH.nil
    refine step_entryK rfl (.tmp 40) (.tmp 43) 148 rfl 136 3 Tryz.underlying148 keySpot (.int .i64 0) zeroIntV (by rfl) HM4.out (PSpot.mk 2 typ ByteArray.empty) (by rfl) _ (cntK_getD _ (PSpot.mk 2 typ ByteArray.empty)) ?_
    intro w5 s5 q1 q2 q3 q4
    refine hK.out _ _ ?_ (fun hHeld => ?_)
    · exact ((HOPm.out w5 (HD4.out.step q3)).at).2.2.2.1
    clear hK K
    try simp only [Act.put, List.setIfInBounds_toArray, List.set_cons_zero, List.set_cons_succ]
    refine' wpAnyH_take (i := 7) (oi := ?o21) (v := _) (by simp only [List.getElem?_toArray, List.getElem?_cons_succ, List.getElem?_cons_zero]; rfl) (by kernel_rfl) (by kernel_rfl) (by kernel_rfl) (fun _ _ _ h => h) (Or.inl ⟨by rfl, ?y21⟩) (by assumption) ?r21
    case y21 =>
      intro wS hSw
      try dsimp only at hSw
      go_simp
      all_goals with_reducible rfl
    simp only [Act.put, List.setIfInBounds_toArray, List.set_cons_zero, List.set_cons_succ]
    refine wpAnyH_ready (rs := [4]) (by kernel_rfl) (by simp) ?_
    refine' AllReadyH.cons (o := ?o22) (by simp only [List.getElem?_toArray, List.getElem?_cons_succ, List.getElem?_cons_zero]; rfl) (fun K hK => ?s22) ?m22
    case m22 => exact AllReadyH.nil
    refine step_lookK rfl (.tmp 40) (.tmp 43) 148 rfl 136 3 Tryz.underlying148 keySpot (.int .i64 0) (zeroIntV _) (by rfl) q1 (PSpot.mk 2 typ ByteArray.empty) (by rfl) (.int .i64 ((M).count (PSpot.mk 2 typ ByteArray.empty) : Int)) (by rw [kput_same]; rfl) ?_
    refine hK.out _ _ ?_ (fun hHeld => ?_)
    · exact ((HOPm.out w5 (HD4.out.step q3)).at).2.2.2.1
    clear hK K
    try simp only [Act.put, List.setIfInBounds_toArray, List.set_cons_zero, List.set_cons_succ]
    refine' wpAnyH_take (i := 5) (oi := ?o23) (v := _) (by simp only [List.getElem?_toArray, List.getElem?_cons_succ, List.getElem?_cons_zero]; rfl) (by kernel_rfl) (by kernel_rfl) (by kernel_rfl) (fun _ _ _ h => h) (Or.inl ⟨by rfl, ?y23⟩) (by assumption) ?r23
    case y23 =>
      intro wS hSw
      try dsimp only at hSw
      go_simp
      all_goals with_reducible rfl
    simp only [Act.put, List.setIfInBounds_toArray, List.set_cons_zero, List.set_cons_succ]
    refine wpAnyH_ready (rs := [8]) (by kernel_rfl) (by simp) ?_
    refine' AllReadyH.cons (o := ?o24) (by simp only [List.getElem?_toArray, List.getElem?_cons_succ, List.getElem?_cons_zero]; rfl) (fun K hK => ?s24) ?m24
    case m24 => exact AllReadyH.nil
    refine step_storeK rfl (.tmp 40) (.tmp 47) (.tmp 45) 148 rfl 136 keySpot (by rfl) q1 (PSpot.mk 2 typ ByteArray.empty) s5 (by rfl) q2 (.int .i64 (((M).count (PSpot.mk 2 typ ByteArray.empty) : Int) + 1)) (by simp [Act.eval, HWR.out]) ?_
    intro w6 p1 p3 p4
    rw [kput_twice, ← kput_twice _ _ (.int .i64 0), cntK_step] at p1
    refine hK.out _ _ ?_ (fun hHeld => ?_)
    · exact ((HOPm.out w6 (HD4.out.step (q3.step p3))).at).2.2.2.1
    clear hK K
    try simp only [Act.put]
    refine wpAnyH_done (by kernel_rfl) ?_ _
    refine NoPanic.normal ?_
    have HM6 := Lib.hid p1
    have HD6 := Lib.hid ((Mod.of_grow HG4.out).step (HD4.out.step (q3.step p3)))
    clear q1 q2 q3 q4 p1 p3 p4
    go_wp2
    go_end0
    exact ⟨rfl, by rw [noteG_3 G id typ from_ to_ name v cascade]; exact HM6.out.mono (by omega), HD6.out⟩
  refine step_lookK rfl (.tmp 40) (.tmp 43) 148 rfl 136 3 Tryz.underlying148 keySpot (.int .i64 0) (zeroIntV _) (by rfl) HM4.out (PSpot.mk 2 typ ByteArray.empty) (by rfl) _ (cntK_getD _ (PSpot.mk 2 typ ByteArray.empty)) ?_
  refine hK.out _ _ ?_ (fun hHeld => ?_)
  · exact ((HOPm.out _ HD4.out).at).2.2.2.1
  clear hK K
  try simp only [Act.put, List.setIfInBounds_toArray, List.set_cons_zero, List.set_cons_succ]
  refine' wpAnyH_take (i := 5) (oi := ?o25) (v := _) (by simp only [List.getElem?_toArray, List.getElem?_cons_succ, List.getElem?_cons_zero]; rfl) (by kernel_rfl) (by kernel_rfl) (by kernel_rfl) (fun _ _ _ h => h) (Or.inl ⟨by rfl, ?y25⟩) (by assumption) ?r25
  case y25 =>
    intro wS hSw
    try dsimp only at hSw
    go_simp
    all_goals with_reducible rfl
  simp only [Act.put, List.setIfInBounds_toArray, List.set_cons_zero, List.set_cons_succ]
  refine wpAnyH_ready (rs := [6]) (by kernel_rfl) (by simp) ?_
  refine' AllReadyH.cons (o := ?o26) (by simp only [List.getElem?_toArray, List.getElem?_cons_succ, List.getElem?_cons_zero]; rfl) (fun K hK => ?s26) ?m26
  case m26 => exact AllReadyH.nil
  refine step_entryK rfl (.tmp 40) (.tmp 43) 148 rfl 136 3 Tryz.underlying148 keySpot (.int .i64 0) zeroIntV (by rfl) HM4.out (PSpot.mk 2 typ ByteArray.empty) (by rfl) _ (cntK_getD _ (PSpot.mk 2 typ ByteArray.empty)) ?_
  intro w5 s5 q1 q2 q3 q4
  refine hK.out _ _ ?_ (fun hHeld => ?_)
  · exact ((HOPm.out w5 (HD4.out.step q3)).at).2.2.2.1
  clear hK K
  try simp only [Act.put, List.setIfInBounds_toArray, List.set_cons_zero, List.set_cons_succ]
  refine' wpAnyH_take (i := 7) (oi := ?o27) (v := _) (by simp only [List.getElem?_toArray, List.getElem?_cons_succ, List.getElem?_cons_zero]; rfl) (by kernel_rfl) (by kernel_rfl) (by kernel_rfl) (fun _ _ _ h => h) (Or.inl ⟨by rfl, ?y27⟩) (by assumption) ?r27
  case y27 =>
    intro wS hSw
    try dsimp only at hSw
    go_simp
    all_goals with_reducible rfl
  simp only [Act.put, List.setIfInBounds_toArray, List.set_cons_zero, List.set_cons_succ]
  refine wpAnyH_ready (rs := [8]) (by kernel_rfl) (by simp) ?_
  refine' AllReadyH.cons (o := ?o28) (by simp only [List.getElem?_toArray, List.getElem?_cons_succ, List.getElem?_cons_zero]; rfl) (fun K hK => ?s28) ?m28
  case m28 => exact AllReadyH.nil
  refine step_storeK rfl (.tmp 40) (.tmp 47) (.tmp 45) 148 rfl 136 keySpot (by rfl) q1 (PSpot.mk 2 typ ByteArray.empty) s5 (by rfl) q2 (.int .i64 (((M).count (PSpot.mk 2 typ ByteArray.empty) : Int) + 1)) (by simp [Act.eval, HWR.out]) ?_
  intro w6 p1 p3 p4
  rw [kput_twice, ← kput_twice _ _ (.int .i64 0), cntK_step] at p1
  refine hK.out _ _ ?_ (fun hHeld => ?_)
  · exact ((HOPm.out w6 (HD4.out.step (q3.step p3))).at).2.2.2.1
  clear hK K
  try simp only [Act.put]
  refine wpAnyH_done (by kernel_rfl) ?_ _
  refine NoPanic.normal ?_
  have HM6 := Lib.hid p1
  have HD6 := Lib.hid ((Mod.of_grow HG4.out).step (HD4.out.step (q3.step p3)))
  clear q1 q2 q3 q4 p1 p3 p4
  go_wp2
  go_end0
  exact ⟨rfl, by rw [noteG_3 G id typ from_ to_ name v cascade]; exact HM6.out.mono (by omega), HD6.out⟩

set_option maxRecDepth 100000 in
set_option maxHeartbeats 8000000 in
theorem note4 (S : Nat → Prop) (Bm B n : Nat) (M : List PSpot) (G : PGraph) (c : PCat) (o : POp) (w : World) (h : GraphOk 120 S w B G) (hG : GInv G) (hm : mayG c o G = 0) (hmk : MapK PSpot.args w Bm (cntK M) n) (hM : M.length ≤ 100000) (hS : ¬ S Bm) (hk : o.kind = 4) :
    Calls Tryz.prog 86 #[.map (some Bm), .pointer (some ⟨B, 0, none⟩), o.args] w (NoteP Bm n M G o w) := by
  have HOK := Lib.hid h; have HI := Lib.hid hG; have HMK := Lib.hid hmk; have HML := Lib.hid hM; have HS := Lib.hid hS
  obtain ⟨kind, id, typ, from_, to_, name, v, cascade⟩ := o
  subst hk
  have HM := Lib.hid hm
  have HW := Lib.hid (show ∀ o1, Grow w (w.alloc o1) from fun o1 => (Grow.rfl' w).allocd o1)
  have HBX := Lib.hid (opBox w ⟨4, id, typ, from_, to_, name, v, cascade⟩)
  have hbm := hmk.lt
  have HB1 := Lib.hid (show G.nodes.length ≤ 1099511627776 ∧ G.edges.length ≤ 1099511627776 by have := hG.items; omega)
  have HB2 := Lib.hid (show ∀ x ∈ G.nodes, x.props.length ≤ 1099511627776 from fun x hx => by have := (hG.nodesB x hx).2.2; omega)
  have HB3 := Lib.hid (show ∀ x ∈ G.edges, x.props.length ≤ 1099511627776 from fun x hx => by have := (hG.edgesB x hx).2.2; omega)
  clear h hG hm hmk hM hS
  go_enter Tryz.func86, Tryz.ntmps86
  go_wp2_with fail
  refine (graphGetNode S B G id _ (HOK.out.grow (HW.out _)).rd HI.out.nodes HB1.out.1 HB2.out).mono ?_
  rintro e w2 h2
  obtain ⟨i2, t2, a2, n2, c2, b2, rfl, hgot, g2⟩ := h2.got
  have HN := Lib.hid hgot
  have HG2 := Lib.hid ((HW.out _).step g2)
  have HOP2 := Lib.hid (HBX.out.grow g2)
  clear g2 hgot h2
  obtain ⟨hl2, p0, p1, -⟩ := HOP2.out.at
  have HW2 := Lib.hid (show ∀ o1, Grow w2 (w2.alloc o1) from fun o1 => (Grow.rfl' w2).allocd o1)
  have HNB := Lib.hid (heap_alloc_new w2 (.cells #[.int .i64 i2, .string t2, .slice a2 n2 c2] 94))
  go_wp2_with fail
  refine (graphGetEdge S B G id _ (HOK.out.grow (HG2.out.step (HW2.out _))).rd HI.out.edges HB1.out.2 HB3.out).mono ?_
  rintro e w3 h3
  obtain ⟨i3, t3, f3, o3, a3, n3, c3, b3, rfl, hgot, g3⟩ := h3.got
  have HE := Lib.hid hgot
  have HG3 := Lib.hid (HG2.out.step ((HW2.out _).step g3))
  have HOP3 := Lib.hid (HOP2.out.grow ((HW2.out _).step g3))
  have HNB3 := Lib.hid ((g3.heapEq (blk_lt HNB.out)).trans HNB.out)
  have HL3 := Lib.hid (show w2.heap.size + 1 ≤ w3.heap.size by have := g3.size; simpa using this)
  clear g3 hgot h3 p0 p1 hl2
  obtain ⟨hl3, p0, -⟩ := HOP3.out.at
  have HW3 := Lib.hid (show ∀ o1, Grow w3 (w3.alloc o1) from fun o1 => (Grow.rfl' w3).allocd o1)
  obtain ⟨W4, hW4⟩ : ∃ W4, w3.alloc (.cells #[.int .i64 i3, .string t3, .int .i64 f3, .int .i64 o3, .slice a3 n3 c3] 98) = W4 := ⟨_, rfl⟩
  have HEB4 := Lib.hid (show W4.heap[w3.heap.size]? = some (.cells #[.int .i64 i3, .string t3, .int .i64 f3, .int .i64 o3, .slice a3 n3 c3] 98 (0, 0)) from hW4 ▸ heap_alloc_new w3 _)
  have HG34 := Lib.hid (show Grow w3 W4 from hW4 ▸ HW3.out _)
  have HG4 := Lib.hid (HG3.out.step HG34.out)
  have HBM := Lib.hid (show Bm < w.heap.size from hbm)
  have HSZ := Lib.hid (show w.heap.size ≤ w2.heap.size ∧ w2.heap.size < w3.heap.size ∧ w3.heap.size < W4.heap.size from ⟨HG2.out.size, HL3.out, blk_lt HEB4.out⟩)
  have HOPm := Lib.hid (show ∀ w', Mod (fun q => q = Bm) W4 w' → OpAt w' w.heap.size ⟨4, id, typ, from_, to_, name, v, cascade⟩ from fun w' g => (HOP3.out.grow HG34.out).modd g (by have := HBM.out; omega))
  have HNBm := Lib.hid (show ∀ w', Mod (fun q => q = Bm) W4 w' → w'.heap[w2.heap.size]? = some (.cells #[.int .i64 i2, .string t2, .slice a2 n2 c2] 94 (0, 0)) from fun w' g => (g.block _ (by have := HSZ.out; omega) (by have := HSZ.out; have := HBM.out; omega)).trans ((HG34.out.heapEq HSZ.out.2.1).trans HNB3.out))
  have HEBm := Lib.hid (show ∀ w', Mod (fun q => q = Bm) W4 w' → w'.heap[w3.heap.size]? = some (.cells #[.int .i64 i3, .string t3, .int .i64 f3, .int .i64 o3, .slice a3 n3 c3] 98 (0, 0)) from fun w' g => (g.block _ (by have := HSZ.out; omega) (by have := HSZ.out; have := HBM.out; omega)).trans HEB4.out)
  have HM4 := Lib.hid (show MapK PSpot.args W4.drew Bm (cntK M) n from HMK.out.grow (HG4.out.drewd))
  have HD4 := Lib.hid (show Mod (fun q => q = Bm) W4 W4.drew from Mod.of_grow ((Grow.rfl' W4).drewd))
  have HW4e := Lib.hid hW4
  clear hbm hW4
  have HWR := Lib.hid (wrapK (M := M) (y := (PSpot.mk 2 t3 ByteArray.empty)) (by have := HML.out; omega))
  go_wp2_with fail
  rw [HW4e.out]
  clear HW4e p0 hl3
  refine wp_region_noPanic ?_
  refine wp_region_held_drew (S := fun w' => w'.cell? ⟨w3.heap.size, 1, none⟩ = some (.string t3)) (by kernel_rfl) ?_ (fun hHeld => ?_)
  · exact (blk_cell (HEBm.out _ HD4.out) _).trans rfl
  refine' wpAnyH_take (i := 0) (oi := ?o29) (v := _) (by simp only [List.getElem?_toArray, List.getElem?_cons_zero]; rfl) (by kernel_rfl) (by kernel_rfl) (by kernel_rfl) (fun _ _ _ h => h) (Or.inl ⟨by rfl, ?y29⟩) (by assumption) ?r29
  case y29 =>
    intro wS hSw
    try dsimp only at hSw
    go_simp
    all_goals with_reducible rfl
  simp only [Act.put, List.setIfInBounds_toArray, List.set_cons_zero, List.set_cons_succ]
  refine' wpAnyH_take (i := 1) (oi := ?o30) (v := _) (by simp only [List.getElem?_toArray, List.getElem?_cons_succ, List.getElem?_cons_zero]; rfl) (by kernel_rfl) (by kernel_rfl) (by kernel_rfl) (fun _ _ _ h => h) (Or.inl ⟨by rfl, ?y30⟩) (by assumption) ?r30
  case y30 =>
    intro wS hSw
    try dsimp only at hSw
    go_simp
    all_goals with_reducible rfl
  simp only [Act.put, List.setIfInBounds_toArray, List.set_cons_zero, List.set_cons_succ]
  refine' wpAnyH_take (i := 2) (oi := ?o31) (v := _) (by simp only [List.getElem?_toArray, List.getElem?_cons_succ, List.getElem?_cons_zero]; rfl) (by kernel_rfl) (by kernel_rfl) (by kernel_rfl) (fun _ _ _ h => h) (Or.inl ⟨by rfl, ?y31⟩) (by assumption) ?r31
  case y31 =>
    intro wS hSw
    try dsimp only at hSw
    go_simp
    all_goals with_reducible rfl
  simp only [Act.put, List.setIfInBounds_toArray, List.set_cons_zero, List.set_cons_succ]
  refine' wpAnyH_take (i := 3) (oi := ?o32) (v := _) (by simp only [List.getElem?_toArray, List.getElem?_cons_succ, List.getElem?_cons_zero]; rfl) (by kernel_rfl) (by kernel_rfl) (by kernel_rfl) (fun _ _ _ h => h) (Or.inl ⟨by rfl, ?y32⟩) (by assumption) ?r32
  case y32 =>
    intro wS hSw
    try dsimp only at hSw
    go_simp
    all_goals with_reducible rfl
  simp only [Act.put, List.setIfInBounds_toArray, List.set_cons_zero, List.set_cons_succ]
  refine wpAnyH_ready (rs := [4, 6]) (by kernel_rfl) (by simp) ?_
  refine' AllReadyH.cons (o := ?o33) (by simp only [List.getElem?_toArray, List.getElem?_cons_succ, List.getElem?_cons_zero]; rfl) (fun K hK => ?s33) ?m33
  rotate_left
  · refine' AllReadyH.cons (o := ?o34) (by simp only [List.getElem?_toArray, List.getElem?_cons_succ, List.getElem?_cons_zero]; rfl) (fun K hK => ?s34) ?m34
    case m34 => exact AllReadyH.nil
    refine step_entryK rfl (.tmp 88) (.tmp 91) 148 rfl 136 3 Tryz.underlying148 keySpot (.int .i64 0) zeroIntV (by rfl) HM4.out (PSpot.mk 2 t3 ByteArray.empty) (by rfl) _ (cntK_getD _ (PSpot.mk 2 t3 ByteArray.empty)) ?_
    intro w5 s5 q1 q2 q3 q4
    refine hK.out _ _ ?_ (fun hHeld => ?_)
    · exact (blk_cell (HEBm.out w5 (HD4.out.step q3)) _).trans rfl
    clear hK K
    try simp only [Act.put, List.setIfInBounds_toArray, List.set_cons_zero, List.set_cons_succ]
    refine' wpAnyH_take (i := 7) (oi := ?o35) (v := _) (by simp only [List.getElem?_toArray, List.getElem?_cons_succ, List.getElem?_cons_zero]; rfl) (by kernel_rfl) (by kernel_rfl) (by kernel_rfl) (fun _ _ _ h => h) (Or.inl ⟨by rfl, ?y35⟩) (by assumption) ?r35
    case y35 =>
      intro wS hSw
      try dsimp only at hSw
      go_simp
      all_goals with_reducible rfl
    simp only [Act.put, List.setIfInBounds_toArray, List.set_cons_zero, List.set_cons_succ]
    refine wpAnyH_ready (rs := [4]) (by kernel_rfl) (by simp) ?_
    refine' AllReadyH.cons (o := ?o36) (by simp only [List.getElem?_toArray, List.getElem?_cons_succ, List.getElem?_cons_zero]; rfl) (fun K hK => ?s36) ?m36
    case m36 => exact AllReadyH.nil
    refine step_lookK rfl (.tmp 88) (.tmp 91) 148 rfl 136 3 Tryz.underlying148 keySpot (.int .i64 0) (zeroIntV _) (by rfl) q1 (PSpot.mk 2 t3 ByteArray.empty) (by rfl) (.int .i64 ((M).count (PSpot.mk 2 t3 ByteArray.empty) : Int)) (by rw [kput_same]; rfl) ?_
    refine hK.out _ _ ?_ (fun hHeld => ?_)
    · exact (blk_cell (HEBm.out w5 (HD4.out.step q3)) _).trans rfl
    clear hK K
    try simp only [Act.put, List.setIfInBounds_toArray, List.set_cons_zero, List.set_cons_succ]
    refine' wpAnyH_take (i := 5) (oi := ?o37) (v := _) (by simp only [List.getElem?_toArray, List.getElem?_cons_succ, List.getElem?_cons_zero]; rfl) (by kernel_rfl) (by kernel_rfl) (by kernel_rfl) (fun _ _ _ h => h) (Or.inl ⟨by rfl, ?y37⟩) (by assumption) ?r37
    case y37 =>
      intro wS hSw
      try dsimp only at hSw
      go_simp
      all_goals with_reducible rfl
    simp only [Act.put, List.setIfInBounds_toArray, List.set_cons_zero, List.set_cons_succ]
    refine wpAnyH_ready (rs := [8]) (by kernel_rfl) (by simp) ?_
    refine' AllReadyH.cons (o := ?o38) (by simp only [List.getElem?_toArray, List.getElem?_cons_succ, List.getElem?_cons_zero]; rfl) (fun K hK => ?s38) ?m38
    case m38 => exact AllReadyH.nil
    refine step_storeK rfl (.tmp 88) (.tmp 95) (.tmp 93) 148 rfl 136 keySpot (by rfl) q1 (PSpot.mk 2 t3 ByteArray.empty) s5 (by rfl) q2 (.int .i64 (((M).count (PSpot.mk 2 t3 ByteArray.empty) : Int) + 1)) (by simp [Act.eval, HWR.out]) ?_
    intro w6 p1 p3 p4
    rw [kput_twice, ← kput_twice _ _ (.int .i64 0), cntK_step] at p1
    refine hK.out _ _ ?_ (fun hHeld => ?_)
    · exact (blk_cell (HEBm.out w6 (HD4.out.step (q3.step p3))) _).trans rfl
    clear hK K
    try simp only [Act.put]
    refine wpAnyH_done (by kernel_rfl) ?_ _
    refine NoPanic.normal ?_
    have HM6 := Lib.hid p1
    have HD6 := Lib.hid ((Mod.of_grow HG4.out).step (HD4.out.step (q3.step p3)))
    clear q1 q2 q3 q4 p1 p3 p4
    go_wp2
    go_end0
    exact ⟨rfl, by rw [noteG_4 (typ := typ) (from_ := from_) (to_ := to_) (name := name) (v := v) (b := cascade) HE.out (may_has4 HM.out)]; exact HM6.out.mono (by omega), HD6.out⟩
  refine step_lookK rfl (.tmp 88) (.tmp 91) 148 rfl 136 3 Tryz.underlying148 keySpot (.int .i64 0) (zeroIntV _) (by rfl) HM4.out (PSpot.mk 2 t3 ByteArray.empty) (by rfl) _ (cntK_getD _ (PSpot.mk 2 t3 ByteArray.empty)) ?_
  refine hK.out _ _ ?_ (fun hHeld => ?_)
  · exact (blk_cell (HEBm.out _ HD4.out) _).trans rfl
  clear hK K
  try simp only [Act.put, List.setIfInBounds_toArray, List.set_cons_zero, List.set_cons_succ]
  refine' wpAnyH_take (i := 5) (oi := ?o39) (v := _) (by simp only [List.getElem?_toArray, List.getElem?_cons_succ, List.getElem?_cons_zero]; rfl) (by kernel_rfl) (by kernel_rfl) (by kernel_rfl) (fun _ _ _ h => h) (Or.inl ⟨by rfl, ?y39⟩) (by assumption) ?r39
  case y39 =>
    intro wS hSw
    try dsimp only at hSw
    go_simp
    all_goals with_reducible rfl
  simp only [Act.put, List.setIfInBounds_toArray, List.set_cons_zero, List.set_cons_succ]
  refine wpAnyH_ready (rs := [6]) (by kernel_rfl) (by simp) ?_
  refine' AllReadyH.cons (o := ?o40) (by simp only [List.getElem?_toArray, List.getElem?_cons_succ, List.getElem?_cons_zero]; rfl) (fun K hK => ?s40) ?m40
  case m40 => exact AllReadyH.nil
  refine step_entryK rfl (.tmp 88) (.tmp 91) 148 rfl 136 3 Tryz.underlying148 keySpot (.int .i64 0) zeroIntV (by rfl) HM4.out (PSpot.mk 2 t3 ByteArray.empty) (by rfl) _ (cntK_getD _ (PSpot.mk 2 t3 ByteArray.empty)) ?_
  intro w5 s5 q1 q2 q3 q4
  refine hK.out _ _ ?_ (fun hHeld => ?_)
  · exact (blk_cell (HEBm.out w5 (HD4.out.step q3)) _).trans rfl
  clear hK K
  try simp only [Act.put, List.setIfInBounds_toArray, List.set_cons_zero, List.set_cons_succ]
  refine' wpAnyH_take (i := 7) (oi := ?o41) (v := _) (by simp only [List.getElem?_toArray, List.getElem?_cons_succ, List.getElem?_cons_zero]; rfl) (by kernel_rfl) (by kernel_rfl) (by kernel_rfl) (fun _ _ _ h => h) (Or.inl ⟨by rfl, ?y41⟩) (by assumption) ?r41
  case y41 =>
    intro wS hSw
    try dsimp only at hSw
    go_simp
    all_goals with_reducible rfl
  simp only [Act.put, List.setIfInBounds_toArray, List.set_cons_zero, List.set_cons_succ]
  refine wpAnyH_ready (rs := [8]) (by kernel_rfl) (by simp) ?_
  refine' AllReadyH.cons (o := ?o42) (by simp only [List.getElem?_toArray, List.getElem?_cons_succ, List.getElem?_cons_zero]; rfl) (fun K hK => ?s42) ?m42
  case m42 => exact AllReadyH.nil
  refine step_storeK rfl (.tmp 88) (.tmp 95) (.tmp 93) 148 rfl 136 keySpot (by rfl) q1 (PSpot.mk 2 t3 ByteArray.empty) s5 (by rfl) q2 (.int .i64 (((M).count (PSpot.mk 2 t3 ByteArray.empty) : Int) + 1)) (by simp [Act.eval, HWR.out]) ?_
  intro w6 p1 p3 p4
  rw [kput_twice, ← kput_twice _ _ (.int .i64 0), cntK_step] at p1
  refine hK.out _ _ ?_ (fun hHeld => ?_)
  · exact (blk_cell (HEBm.out w6 (HD4.out.step (q3.step p3))) _).trans rfl
  clear hK K
  try simp only [Act.put]
  refine wpAnyH_done (by kernel_rfl) ?_ _
  refine NoPanic.normal ?_
  have HM6 := Lib.hid p1
  have HD6 := Lib.hid ((Mod.of_grow HG4.out).step (HD4.out.step (q3.step p3)))
  clear q1 q2 q3 q4 p1 p3 p4
  go_wp2
  go_end0
  exact ⟨rfl, by rw [noteG_4 (typ := typ) (from_ := from_) (to_ := to_) (name := name) (v := v) (b := cascade) HE.out (may_has4 HM.out)]; exact HM6.out.mono (by omega), HD6.out⟩
end Go.Hg
