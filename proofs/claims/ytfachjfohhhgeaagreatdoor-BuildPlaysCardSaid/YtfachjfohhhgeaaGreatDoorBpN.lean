/- Two graphs side by side, the program's and the reference's; hedgerowlaw17.Same of equal ones; law18.Made: a graph of changes, and the document's; law18.Made as the laws behind it want it; small facts; hedgerowkeep.Longs, Texts, Rule, Cats of equal ones: true; law23.wakes; the laid rule; A list's rest and its beginning, taken by an operation of its own: laws for the walk; (*hedgerowref23.Job).Step; A drawn region whose last operation z may turn what the others read: S is asked of the others alone; what z waits for may be taken first. Conditions: those that each theorem names. -/
import Derived.WalkKit
import Derived.WalkSpells
import Derived.WalkLawsBesides
import Derived.Lib.Hide
import Derived.BigQuiet
import Derived.Deep.LoopGhost
import Derived.Test.YtfachjfohhhgeaaGreatDoorRows
import Derived.Lib.SliceRun
import Derived.WideMake
import Derived.Deep.RegionLaw
import Derived.Lib.Overlaps
import Derived.Deep.RegionHeld3
import Derived.Laws.ResultCell
import Derived.Shelf.SortM.Plain
import Derived.Shelf.SortM.SortNone
import Derived.Shelf.SlicesE.DeleteFunc
import Derived.Maps.OwnOps
import Derived.Maps.OwnSet
import Derived.Carry
import Derived.Lib.SlKeysI
import Derived.Shelf.SlIterI.Nil
import Derived.Conc.LoneCalls
import Derived.Conc.SmallLaws
import Derived.Deep.CutBlock
import Derived.Deep.DeepCutAuto
import Derived.Laws.EntriesVeiled
import Derived.Maps.RangeWalk
import Derived.Lib.SlMapFilter
import Derived.Test.YtfachjfohhhgeaaGreatDoorBpM
namespace Go.Hg
open Go.RowKit Go.Proofs

def Pair (T1 T2 : TypeId) (w1 w : World) (B1 B2 : Nat) (G1 G2 : PGraph) : Prop :=
  ∃ S1 S2 : Nat → Prop, GraphOk T1 S1 w B1 G1 ∧ GraphOk T2 S2 w B2 G2 ∧ (∀ b, S1 b → ¬ S2 b) ∧ (∀ b, S1 b → w1.heap.size ≤ b ∧ b < w.heap.size) ∧ (∀ b, S2 b → w1.heap.size ≤ b ∧ b < w.heap.size) ∧ Grow w1 w
theorem Pair.grow {T1 T2 : TypeId} {w1 w w' : World} {B1 B2 : Nat} {G1 G2 : PGraph} (h : Pair T1 T2 w1 w B1 B2 G1 G2) (g : Grow w w') : Pair T1 T2 w1 w' B1 B2 G1 G2 := by
  obtain ⟨S1, S2, h1, h2, h3, h4, h5, h6⟩ := h
  exact ⟨S1, S2, h1.grow g, h2.grow g, h3, fun b hb => ⟨(h4 b hb).1, Nat.lt_of_lt_of_le (h4 b hb).2 g.size⟩, fun b hb => ⟨(h5 b hb).1, Nat.lt_of_lt_of_le (h5 b hb).2 g.size⟩, h6.step g⟩
theorem Pair.swap {T1 T2 : TypeId} {w1 w : World} {B1 B2 : Nat} {G1 G2 : PGraph} (h : Pair T1 T2 w1 w B1 B2 G1 G2) : Pair T2 T1 w1 w B2 B1 G2 G1 := by
  obtain ⟨S1, S2, h1, h2, h3, h4, h5, h6⟩ := h
  exact ⟨S2, S1, h2, h1, fun b hb hb' => h3 b hb' hb, h5, h4, h6⟩
theorem Pair.grown {T1 T2 : TypeId} {w1 w : World} {B1 B2 : Nat} {G1 G2 : PGraph} (h : Pair T1 T2 w1 w B1 B2 G1 G2) : Grow w1 w := by
  obtain ⟨_, _, _, _, _, _, _, h⟩ := h; exact h
theorem Pair.step1 {T1 T2 : TypeId} {w1 w w' : World} {B1 B2 : Nat} {G2 G3 : PGraph} {S1 S2 : Nat → Prop} (h2 : GraphOk T2 S2 w B2 G2) (h3 : ∀ b, S1 b → ¬ S2 b) (h4 : ∀ b, S1 b → w1.heap.size ≤ b ∧ b < w.heap.size) (h5 : ∀ b, S2 b → w1.heap.size ≤ b ∧ b < w.heap.size) (h6 : Grow w1 w)
    (k1 : GraphOk T1 (fun b => S1 b ∨ w.heap.size ≤ b) w' B1 G3) (k2 : Mod S1 w w') : Pair T1 T2 w1 w' B1 B2 G3 G2 := by
  have hs := k2.size
  have h1s := h6.size
  refine ⟨fun b => (S1 b ∨ w.heap.size ≤ b) ∧ b < w'.heap.size, S2, k1.cut, h2.keep k2 (fun b hb hb' => h3 b hb' hb), fun b hb hb' => hb.1.elim (fun h => h3 b h hb') (fun h => by have := (h5 b hb').2; omega), fun b hb => ⟨hb.1.elim (fun h => (h4 b h).1) (fun h => by omega), hb.2⟩,
    fun b hb => ⟨(h5 b hb).1, by have := (h5 b hb).2; omega⟩, h6.modd k2 (fun b hb => (h4 b hb).1)⟩
theorem Pair.make {T1 T2 : TypeId} {w1 w2 w3 : World} {B1 B2 : Nat} {G1 G2 : PGraph} (h1 : GraphOk T1 (fun b => w1.heap.size ≤ b) w2 B1 G1) (g1 : Grow w1 w2) (h2 : GraphOk T2 (fun b => w2.heap.size ≤ b) w3 B2 G2) (g2 : Grow w2 w3) : Pair T1 T2 w1 w3 B1 B2 G1 G2 := by
  have hs := g1.size; have hs2 := g2.size
  refine ⟨fun b => w1.heap.size ≤ b ∧ b < w2.heap.size, fun b => w2.heap.size ≤ b ∧ b < w3.heap.size, h1.cut.grow g2, h2.cut, fun b hb hb' => by omega, fun b hb => ⟨hb.1, by omega⟩, fun b hb => ⟨by omega, hb.2⟩, g1.step g2⟩

theorem pairDo1 {T2 : TypeId} (SC : Nat → Prop) (B1 B2 : Nat) (G1 G2 : PGraph) (nv ev rv iv : Value) (c : PCat) (o : POp) (w1 w : World) (h : Pair 106 T2 w1 w B1 B2 G1 G2) (hG : GInv G1) (hc : CatR SC w nv ev rv iv c) :
    Calls Tryz.prog 20 #[.pointer (some ⟨B1, 0, none⟩), c.arg nv ev rv iv, o.args] w fun e w' =>
      e = .returned (.tuple #[.int .i64 (if mayG c o G1 = 0 then idG o G1 else 0), .int .i64 (mayG c o G1)]) ∧ Pair 106 T2 w1 w' B1 B2 (stepG c o G1) G2 := by
  obtain ⟨S1, S2, h1, h2, h3, h4, h5, h6⟩ := h
  exact (graphDo S1 SC B1 G1 nv ev rv iv c o w h1 hG hc).mono fun _ _ ⟨k1, k2, k3⟩ => ⟨k1, Pair.step1 h2 h3 h4 h5 h6 k2 k3⟩
theorem pairDo2 {T2 : TypeId} (SC : Nat → Prop) (B1 B2 : Nat) (G1 G2 : PGraph) (nv ev rv iv : Value) (c : PCat) (o : POp) (w1 w : World) (h : Pair T2 42 w1 w B1 B2 G1 G2) (hG : GInv G2) (hc : CatR SC w nv ev rv iv c) :
    Calls Tryz.prog 29 #[.pointer (some ⟨B2, 0, none⟩), c.arg nv ev rv iv, o.args] w fun e w' =>
      e = .returned (.tuple #[.int .i64 (if mayG c o G2 = 0 then idG o G2 else 0), .int .i64 (mayG c o G2)]) ∧ Pair T2 42 w1 w' B1 B2 G1 (stepG c o G2) := by
  obtain ⟨S1, S2, h1, h2, h3, h4, h5, h6⟩ := h
  exact (refDo S2 SC B2 G2 nv ev rv iv c o w h2 hG hc).mono fun _ _ ⟨k1, k2, k3⟩ => ⟨k1, (Pair.step1 h1 (fun b hb hb' => h3 b hb' hb) h5 h4 h6 k2 k3).swap⟩

end Go.Hg

namespace Go.Hg
open Go.RowKit Go.Proofs

def MadePost (l : List POp) (w : World) (e : Ending) (w' : World) : Prop :=
  (fairOps l = false ∧ e = .returned (.tuple #[.pointer none, .pointer none, .bool false]) ∧ Grow w w') ∨
  (fairOps l = true ∧ ∃ (B1 B2 : Nat), e = .returned (.tuple #[.pointer (some ⟨B1, 0, none⟩), .pointer (some ⟨B2, 0, none⟩), .bool true]) ∧ Pair 106 42 w w' B1 B2 (madeG l) (madeG l))

set_option maxRecDepth 100000 in
set_option maxHeartbeats 8000000 in
theorem lawMade (S : Nat → Prop) (v : Value) (l : List POp) (w : World) (hl : OpsR S w v l) : Calls Tryz.prog 9 #[v] w (MadePost l w) := by
  have HL := Lib.hid hl
  obtain ⟨aa, ca, rfl, hal, hac, hA⟩ := SlR.open hl
  clear hl
  unfold maxLen at hac
  have HA := Lib.hid hA; clear hA
  go_enter Tryz.func9, Tryz.ntmps9
  go_wp2_with fail
  refine (graphNew _).mono ?_
  rintro e w3 ⟨B1, rfl, hgr, hg3⟩
  have HGR3 := Lib.hid hgr; have HG3 := Lib.hid hg3
  clear hgr hg3
  go_wp2_with fail
  refine (refNew _).mono ?_
  rintro e w4 ⟨B2, rfl, hgr, hg4⟩
  have HPR := Lib.hid (Pair.make HGR3.out HG3.out hgr hg4)
  have HG4 := Lib.hid (HG3.out.step hg4)
  clear hgr hg4 HGR3 HG3
  go_wp2_with fail
  refine (lawFair S _ l _ (HL.out.growS HG4.out)).mono ?_
  rintro e w2 ⟨rfl, hg2⟩
  have HP2 := Lib.hid (HPR.out.grow hg2)
  have HG2 := Lib.hid (HG4.out.step hg2)
  clear hg2 HPR HG4
  cases hf : fairOps l
  · have HF := Lib.hid hf
    clear hf
    go_wp2
    go_ret3
    exact .inl ⟨HF.out, rfl, HG2.out⟩
  have HF := Lib.hid hf
  clear hf
  go_wp2
  go_loopg [7] (l.length + 1) (fun g i wr => ∃ (k : Nat), k ≤ l.length ∧ k ≤ 60 ∧ g = l.length + 1 - k ∧ i = .int .i64 k ∧ Pair 106 42 w wr B1 B2 (madeK k l) (madeK k l))
  case atStart => exact ⟨0, by omega, by omega, by omega, rfl, HP2.out⟩
  case round =>
    obtain ⟨k, hk, hk60, rfl, rfl, hpr⟩ := hrel
    have HP := Lib.hid hpr
    clear hpr HP2
    have HGK := Lib.hid HP.out.grown
    by_cases hkl : k < l.length
    · by_cases hk6 : k < 60
      · have HMK := Lib.hid (madeK_succ hkl)
        have HI := Lib.hid (madeK_inv l k)
        generalize madeK k l = G at *
        obtain ⟨ba, oa, ra, rfl, hSa, hba, hRa, hca⟩ := HA.out k l[k] (List.getElem?_eq_getElem hkl)
        have HS := Lib.hid (show ∀ w', Grow w w' → (w'.cell? ⟨ba, oa + k * 10, none⟩ = some (.int .i64 l[k].kind) ∧ w'.cell? ⟨ba, oa + k * 10 + 1, none⟩ = some (.int .i64 l[k].id) ∧ w'.cell? ⟨ba, oa + k * 10 + 2, none⟩ = some (.string l[k].typ) ∧ w'.cell? ⟨ba, oa + k * 10 + 3, none⟩ = some (.int .i64 l[k].from_) ∧ w'.cell? ⟨ba, oa + k * 10 + 4, none⟩ = some (.int .i64 l[k].to_) ∧ w'.cell? ⟨ba, oa + k * 10 + 5, none⟩ = some (.string l[k].name) ∧ w'.cell? ⟨ba, oa + k * 10 + 6, none⟩ = some (.int .i64 l[k].v.kind) ∧ w'.cell? ⟨ba, oa + k * 10 + 7, none⟩ = some (.int .i64 l[k].v.n) ∧ w'.cell? ⟨ba, oa + k * 10 + 8, none⟩ = some (.string l[k].v.s) ∧ w'.cell? ⟨ba, oa + k * 10 + 9, none⟩ = some (.bool l[k].cascade)) from fun w' hg' => (opCells hRa hba hg' hca).2)
        clear hca hRa hSa hba
        generalize l[k] = o at *
        have HD := Lib.hid (show Grow w wr.drew from HP.out.grown.drewd)
        have HPD := Lib.hid (HP.out.grow ((Grow.rfl' wr).drewd))
        go_wp2_with fail
        go_region_held3 (fun w' => w'.cell? ⟨ba, oa + k * 10, none⟩ = some (.int .i64 o.kind) ∧ w'.cell? ⟨ba, oa + k * 10 + 1, none⟩ = some (.int .i64 o.id) ∧ w'.cell? ⟨ba, oa + k * 10 + 2, none⟩ = some (.string o.typ) ∧ w'.cell? ⟨ba, oa + k * 10 + 3, none⟩ = some (.int .i64 o.from_) ∧ w'.cell? ⟨ba, oa + k * 10 + 4, none⟩ = some (.int .i64 o.to_) ∧ w'.cell? ⟨ba, oa + k * 10 + 5, none⟩ = some (.string o.name) ∧ w'.cell? ⟨ba, oa + k * 10 + 6, none⟩ = some (.int .i64 o.v.kind) ∧ w'.cell? ⟨ba, oa + k * 10 + 7, none⟩ = some (.int .i64 o.v.n) ∧ w'.cell? ⟨ba, oa + k * 10 + 8, none⟩ = some (.string o.v.s) ∧ w'.cell? ⟨ba, oa + k * 10 + 9, none⟩ = some (.bool o.cascade)) (first | exact HS.out _ HD.out | exact HS.out _ HT3.out | exact HS.out _ HP4.out.grown) (first | (go_at_call 21; refine (lawTypes _).mono ?_; rintro e wt3 ⟨nv, ev, rfl, hc, hg3⟩; have HC := Lib.hid hc; have HT3 := Lib.hid (HD.out.step hg3); have HTG3 := Lib.hid hg3; obtain ⟨na, nc, ea, ec, ra, rc, ia, ic, rfl, rfl, -, -⟩ := hc.slices; clear hc hg3) | (go_at_call 20; refine (pairDo1 _ B1 B2 G G _ _ _ _ typesC o w _ (HPD.out.grow HTG3.out) HI.out HC.out).mono ?_; rintro e wd4 ⟨rfl, hp4⟩; have HP4 := Lib.hid hp4; clear hp4; generalize (if mayG typesC o G = 0 then idG o G else 0) = rid; generalize mayG typesC o G = rer))
        have HD5 := Lib.hid (show Grow w wd4.drew from HP4.out.grown.drewd)
        have HPD5 := Lib.hid (HP4.out.grow ((Grow.rfl' wd4).drewd))
        go_wp2_with fail
        go_region_held3 (fun w' => w'.cell? ⟨ba, oa + k * 10, none⟩ = some (.int .i64 o.kind) ∧ w'.cell? ⟨ba, oa + k * 10 + 1, none⟩ = some (.int .i64 o.id) ∧ w'.cell? ⟨ba, oa + k * 10 + 2, none⟩ = some (.string o.typ) ∧ w'.cell? ⟨ba, oa + k * 10 + 3, none⟩ = some (.int .i64 o.from_) ∧ w'.cell? ⟨ba, oa + k * 10 + 4, none⟩ = some (.int .i64 o.to_) ∧ w'.cell? ⟨ba, oa + k * 10 + 5, none⟩ = some (.string o.name) ∧ w'.cell? ⟨ba, oa + k * 10 + 6, none⟩ = some (.int .i64 o.v.kind) ∧ w'.cell? ⟨ba, oa + k * 10 + 7, none⟩ = some (.int .i64 o.v.n) ∧ w'.cell? ⟨ba, oa + k * 10 + 8, none⟩ = some (.string o.v.s) ∧ w'.cell? ⟨ba, oa + k * 10 + 9, none⟩ = some (.bool o.cascade)) (first | exact HS.out _ HD5.out | exact HS.out _ HT5.out | exact HS.out _ HP6.out.grown) (first | (go_at_call 21; refine (lawTypes _).mono ?_; rintro e wt5 ⟨nv, ev, rfl, hc, hg3⟩; have HC := Lib.hid hc; have HT5 := Lib.hid (HD5.out.step hg3); have HTG5 := Lib.hid hg3; obtain ⟨na, nc, ea, ec, ra, rc, ia, ic, rfl, rfl, -, -⟩ := hc.slices; clear hc hg3) | (go_at_call 29; refine (pairDo2 _ B1 B2 (stepG typesC o G) G _ _ _ _ typesC o w _ (HPD5.out.grow HTG5.out) HI.out HC.out).mono ?_; rintro e wd6 ⟨rfl, hp6⟩; have HP6 := Lib.hid hp6; clear hp6; generalize (if mayG typesC o G = 0 then idG o G else 0) = rid2; generalize mayG typesC o G = rer2))
        go_wp2_with fail
        go_roundg (l.length + 1 - (k + 1))
        case measure => omega
        case rel => exact ⟨k + 1, by omega, by omega, rfl, by go_num, by rw [HMK.out]; exact HP6.out⟩
      · have HM := Lib.hid (madeK_full (l := l) (k := k) (.inr (by omega)) hk60)
        go_wp2
        go_ret3
        exact .inr ⟨HF.out, B1, B2, rfl, HM.out ▸ HP.out⟩
    · have HM := Lib.hid (madeK_full (l := l) (k := k) (.inl (by omega)) hk60)
      go_wp2
      go_ret3
      exact .inr ⟨HF.out, B1, B2, rfl, HM.out ▸ HP.out⟩
end Go.Hg

namespace Go.Hg
open Go.RowKit Go.Proofs

theorem wf64 {n : Int} (h1 : -9223372036854775808 ≤ n) (h2 : n ≤ 9223372036854775807) : (Lit.int .i64 n).wf = true := by
  simp only [Lit.wf, Bool.and_eq_true, decide_eq_true_eq]
  exact ⟨h1, h2⟩
theorem ends64f {G : PGraph} (hg : goodG G = true) : ∀ e ∈ G.edges, (Lit.int .i64 e.from_).wf = true := by
  obtain ⟨hi, hx⟩ := goodG_iff.1 hg
  intro e he
  have h1 := hasN_true.1 (hx.edges e he).2.1
  obtain ⟨n, hn, h⟩ := h1
  have h2 := hi.nodesB n hn
  have h3 := hi.next1
  rw [h] at h2
  exact wf64 (by omega) (by omega)
theorem opsOwn {w : World} {v : Value} {l : List POp} {ob : Option Nat} (h : OwnS w 50 10 v l.length (l.map POp.cells).flatten ob) : OpsR (fun _ => True) w v l := by
  have h2 : OwnL w 50 10 (fun (o : POp) r => r = o.cells) v l ob := ⟨l.map POp.cells, by simp, fun k x r hx hr => by
    rw [List.getElem?_map, hx] at hr
    simp only [Option.map_some, Option.some.injEq] at hr
    subst hr
    exact ⟨rfl, rfl⟩, h⟩
  exact h2.toSl (fun _ _ => trivial)
end Go.Hg

namespace Go.Hg
open Go.RowKit Go.Proofs

set_option maxRecDepth 100000 in
set_option maxHeartbeats 1000000 in
theorem keepLongsEq (Sa Sb : Nat → Prop) (va vb : Value) (l : List Int) (w : World) (ha : IdsR Sa w va l) (hb : IdsR Sb w vb l) :
    Calls Tryz.prog 28 #[va, vb] w fun e w' => e = .returned (.bool true) ∧ Grow w w' := by
  obtain ⟨aa, ca, rfl, hal, hac, hA⟩ := SlR.open ha
  obtain ⟨ab, cb, rfl, hbl, hbc, hB⟩ := SlR.open hb
  clear ha hb
  unfold maxLen at hac hbc
  have HA := Lib.hid hA; have HB := Lib.hid hB; clear hA hB
  go_enter Tryz.func28, Tryz.ntmps28
  go_wp2
  go_loopg [5] l.length (fun g i wr => ∃ k : Nat, k ≤ l.length ∧ g = l.length - k ∧ i = .int .i64 k ∧ Grow w wr)
  case atStart => exact ⟨0, by omega, by omega, rfl, Grow.rfl' w⟩
  case round =>
    obtain ⟨k, hk, rfl, rfl, hgr⟩ := hrel
    have HGR := Lib.hid hgr
    by_cases hkl : k < l.length
    · obtain ⟨ba, oa, ra, rfl, hSa, hba, hRa, hca⟩ := HA.out k l[k] (List.getElem?_eq_getElem hkl)
      obtain ⟨bb, ob, rb, rfl, hSb, hbb, hRb, hcb⟩ := HB.out k l[k] (List.getElem?_eq_getElem hkl)
      have ha2 : ba < wr.heap.size := Nat.lt_of_lt_of_le hba hgr.size
      have hb2 : bb < wr.heap.size := Nat.lt_of_lt_of_le hbb hgr.size
      have hca0 := (hgr.cell (p := ⟨ba, oa + k * 1 + 0, none⟩) hba).trans (hca 0 (.int .i64 l[k]) (by rw [show ra = [.int .i64 l[k]] from hRa]; rfl))
      have hcb0 := (hgr.cell (p := ⟨bb, ob + k * 1 + 0, none⟩) hbb).trans (hcb 0 (.int .i64 l[k]) (by rw [show rb = [.int .i64 l[k]] from hRb]; rfl))
      rw [Nat.mul_one, Nat.add_zero] at hca0 hcb0
      clear hca hcb hRa hRb hSa hSb hba hbb hgr
      generalize l[k] = x at *
      go_wp2_with fail
      refine wp_region_grow (by kernel_rfl) (by kernel_rfl) ?_
      repeat (go_big_quiet_step (fail))
      refine wpQuiet_nil ?_
      intro w2 hw2
      go_wp2_with fail
      go_roundg (l.length - (k + 1))
      case measure => omega
      case rel => exact ⟨k + 1, by omega, rfl, by go_num, HGR.out.step hw2⟩
    · clear hgr
      go_wp2
      go_ret
      exact ⟨rfl, HGR.out⟩

set_option maxRecDepth 100000 in
set_option maxHeartbeats 1000000 in
theorem keepRuleEq (x : PRule) (w : World) : Calls Tryz.prog 33 #[x.args, x.args] w fun e w' => e = .returned (.bool true) ∧ Grow w w' := by
  have HW := Lib.hid (show ∀ o1 o2, Grow w ((w.alloc o1).alloc o2) from fun o1 o2 => ((Grow.rfl' w).allocd o1).allocd o2)
  go_enter Tryz.func33, Tryz.ntmps33
  go_wp2
  go_ret
  exact ⟨rfl, HW.out _ _⟩
end Go.Hg

namespace Go.Hg
open Go.RowKit Go.Proofs

def exR : PRule := ⟨0, 2, sMan, sName, ByteArray.empty, ByteArray.empty, 0, 0⟩
def ExG (w : World) : Prop := 0 < w.heap.size ∧ RuleB w 0 exR
theorem ExG.grow {w w' : World} (h : ExG w) (g : Grow w w') : ExG w' := by
  obtain ⟨h0, c0, c1, c2, c3, c4, c5, c6, c7⟩ := h
  exact ⟨Nat.lt_of_lt_of_le h0 g.size, (g.cell (p := ⟨0, 0, none⟩) h0).trans c0, (g.cell (p := ⟨0, 1, none⟩) h0).trans c1, (g.cell (p := ⟨0, 2, none⟩) h0).trans c2, (g.cell (p := ⟨0, 3, none⟩) h0).trans c3, (g.cell (p := ⟨0, 4, none⟩) h0).trans c4, (g.cell (p := ⟨0, 5, none⟩) h0).trans c5, (g.cell (p := ⟨0, 6, none⟩) h0).trans c6, (g.cell (p := ⟨0, 7, none⟩) h0).trans c7⟩
theorem exR_new2 : newE exR 2 = 0 := by decide
def wz : POp := ⟨1, 0, sZoo, 0, 0, ByteArray.empty, ⟨0, 0, ByteArray.empty⟩, false⟩
def w23L : List POp := [wa, wa, wz]
def w23G : PGraph := ⟨[⟨1, sMan, []⟩, ⟨2, sMan, []⟩, ⟨3, sZoo, []⟩], [], 4⟩
theorem w23_fair : fairOps w23L = true := by decide
theorem w23_made : madeG w23L = w23G := by decide
theorem w23_inv : GInv w23G := w23_made ▸ madeK_inv _ _
theorem w23_ids1 : idsG w23G 1 = [1, 2, 3] := (idsG_of (by decide) (by show List.Perm _ ([1, 2, 3] : List Int); exact List.Perm.refl _)).symm
theorem w23_ids3 : idsG w23G 3 = [3] := (idsG_of (by decide) (by show List.Perm _ ([3] : List Int); exact List.Perm.refl _)).symm
def w23J0 : PJob := ⟨exR, 2, 1, []⟩
def w23J1 : PJob := ⟨exR, 2, 3, []⟩
def w23J2 : PJob := ⟨exR, 2, 3, [1]⟩
def w23J3 : PJob := ⟨exR, 2, 4, []⟩
theorem w23_s1 : stepJ w23G w23J0 = w23J1 := by
  unfold stepJ w23J0
  simp only [w23_ids1]
  rfl
theorem w23_t : touchL w23J1 [1] = w23J2 := by simp [touchL, touchJ, w23J1, w23J2, putL]
theorem w23_s2 : stepJ w23G w23J2 = w23J3 := by
  unfold stepJ w23J2
  simp only [w23_ids3]
  rfl
theorem w23_i0 : JobInv w23J0 := ⟨by decide, by decide, by decide, by decide, by decide, by decide, by decide⟩
theorem w23_i1 : JobInv w23J1 := ⟨by decide, by decide, by decide, by decide, by decide, by decide, by decide⟩
theorem w23_i2 : JobInv w23J2 := ⟨by decide, by decide, by decide, by decide, by decide, by decide, by decide⟩
theorem w23_i3 : JobInv w23J3 := ⟨by decide, by decide, by decide, by decide, by decide, by decide, by decide⟩
theorem w23_e1 : endedJ w23J1 w23G.next = false := by decide
theorem w23_v2 : verdV w23G w23J2 = .tuple #[.bool false, .int .i64 161] := rfl
theorem w23_e3 : endedJ w23J3 w23G.next = true := by decide
theorem w23_k3 : keepR w23G.nodes w23G.edges exR = false := by decide
theorem w23_v3 : verdV w23G w23J3 = .tuple #[.bool false, .int .i64 0] := by
  unfold verdV
  rw [if_pos w23_e3]
  show Value.tuple #[.bool (keepR w23G.nodes w23G.edges exR), _] = _
  rw [w23_k3]
theorem opsLitN (W : World) (l : List POp) (hm : l.length ≤ maxLen) {nb : Nat} (h : W.heap.size = nb) : OpsR (fun _ => True) (W.alloc (.cells (l.map POp.cells).flatten.toArray 50)) (.slice (some ⟨nb, 0, none⟩) l.length l.length) l := by
  subst h
  refine opsOwn (l := l) (ob := some W.heap.size) ?_
  have h1 := OwnS.lit W (l.map POp.cells).flatten.toArray 50 10 l.length hm (by
    clear hm
    show (l.map POp.cells).flatten.length = _
    induction l with
    | nil => rfl
    | cons a t ih => simp only [List.map_cons, List.flatten_cons, List.length_append, ih, List.length_cons]; simp [POp.cells]; omega)
  simpa using h1
theorem JobOk.cut {S : Nat → Prop} {w : World} {B : Nat} {J : PJob} (h : JobOk S w B J) : JobOk (fun b => S b ∧ b < w.heap.size) w B J := by
  obtain ⟨cb, mb, s, r, tm, h1, h2, h3, h4, h5, h6, h7, h8, h9⟩ := h
  exact ⟨cb, mb, s, r, tm, ⟨h1, blk_lt h7⟩, ⟨h2, blk_lt h8⟩, ⟨h3, h9.lt⟩, h4, h5, h6, h7, h8, h9⟩
theorem idsLit1 (W : World) (x : Int) {nb : Nat} (h : W.heap.size = nb) : IdsR (fun b => b = nb) (W.alloc (.cells #[.int .i64 x] 2)) (.slice (some ⟨nb, 0, none⟩) 1 1) [x] := by
  subst h
  exact IdsO.toR (l := [x]) (ob := some W.heap.size) (OwnS.lit W #[.int .i64 x] 2 1 1 (by unfold maxLen; omega) rfl) (fun g hg => (Option.some.inj hg).symm)

set_option maxRecDepth 100000 in
set_option maxHeartbeats 8000000 in
theorem law23Wakes (w : World) (hx : ExG w) : Calls Tryz.prog 12 #[] w fun e w' => e = .returned (.bool true) ∧ Grow w w' := by
  have HX := Lib.hid hx
  have HO := Lib.hid (opsLitN w w23L (by simp [w23L, maxLen]) rfl)
  have HW := Lib.hid (show ∀ o1, Grow w (w.alloc o1) from fun o1 => (Grow.rfl' w).allocd o1)
  clear hx
  go_enter Tryz.func12, Tryz.ntmps12
  go_wp2_with fail
  refine (lawMade _ _ w23L _ HO.out).mono ?_
  rintro e w2 h2
  obtain ⟨-, B1, B2, rfl, hpr⟩ : fairOps w23L = true ∧ ∃ (B1 B2 : Nat), e = .returned (.tuple #[.pointer (some ⟨B1, 0, none⟩), .pointer (some ⟨B2, 0, none⟩), .bool true]) ∧ Pair 106 42 _ w2 B1 B2 (madeG w23L) (madeG w23L) := by
    rcases h2 with ⟨h, _⟩ | h
    · rw [w23_fair] at h; cases h
    · exact h
  rw [w23_made] at hpr
  have HG2 := Lib.hid ((HW.out _).step hpr.grown)
  obtain ⟨SG, -, hok, -, -, hs1, -, -⟩ := hpr
  have HOK := Lib.hid hok
  have HSG := Lib.hid (show ∀ b, SG b → b < w2.heap.size from fun b hb => (hs1 b hb).2)
  obtain ⟨hx0, c0, c1, c2, c3, c4, c5, c6, c7⟩ := HX.out.grow HG2.out
  clear hok hs1 h2
  go_wp2_with fail
  refine (buildNew exR 2 w2).mono ?_
  rintro e w3 ⟨g3, h3⟩
  obtain ⟨B, rfl, hj⟩ : ∃ B, e = .returned (.tuple #[.pointer (some ⟨B, 0, none⟩), .int .i64 0]) ∧ JobOk (fun b => w2.heap.size ≤ b) w3 B w23J0 := by
    rcases h3 with ⟨h, -⟩ | ⟨-, h⟩
    · exact absurd exR_new2 h
    · exact h
  have HSJ := Lib.hid (show ∀ b, SG b → ¬ (w2.heap.size ≤ b ∧ b < w3.heap.size) from fun b hb h => by have := HSG.out b hb; omega)
  have HJ3 := Lib.hid hj.cut
  have HG3 := Lib.hid (HG2.out.step g3)
  have HOK3 := Lib.hid (HOK.out.grow g3)
  have HH := Lib.hid (show ∀ b, (w2.heap.size ≤ b ∧ b < w3.heap.size) → w.heap.size ≤ b from fun b hb => by have := HG2.out.size; omega)
  clear g3 h3 hj c0 c1 c2 c3 c4 c5 c6 c7 hx0
  go_wp2_with fail
  refine (jobStep _ SG B B1 w23J0 w23G w3 HJ3.out w23_i0 HOK3.out w23_inv HSJ.out).mono ?_
  rintro e w4 ⟨rfl, hj4, m4⟩
  rw [w23_s1] at hj4
  rw [w23_s1, w23_e1]
  have HJ4 := Lib.hid hj4; have HOK4 := Lib.hid (HOK3.out.keep m4 HSJ.out); have HG4 := Lib.hid (HG3.out.modd m4 HH.out); have HG34 := Lib.hid m4.size
  clear hj4 m4
  go_wp2_with fail
  refine (jobAt _ B w23J1 w4 HJ4.out).mono ?_
  rintro e w4' ⟨rfl, hw⟩
  have hw' := hw.symm
  subst hw'
  clear hw
  have hp1 : w23J1.pos = 3 := rfl
  rw [hp1]
  clear hp1
  have HA4 := Lib.hid (show ∀ o, Grow w4 (w4.alloc o) from fun o => (Grow.rfl' w4).allocd o)
  have HI4 := Lib.hid (idsLit1 w4 1 rfl)
  go_wp2_with fail
  refine (jobTouch _ (fun b => b = w4.heap.size) B w23J1 _ [1] _ (HJ4.out.grow (HA4.out _)) w23_i1 HI4.out (fun b hb h => by have := HG34.out; omega) (by decide)).mono ?_
  rintro e w5 ⟨rfl, hj5, m5⟩
  rw [w23_t] at hj5
  have HJ5 := Lib.hid hj5; have HOK5 := Lib.hid ((HOK4.out.grow (HA4.out _)).keep m5 HSJ.out); have HG5 := Lib.hid ((HG4.out.step (HA4.out _)).modd m5 HH.out)
  clear hj5 m5
  have H64 := Lib.hid (show ∀ e ∈ w23G.edges, (Lit.int .i64 e.from_).wf = true by decide)
  go_wp2_with fail
  refine (jobVerdict _ SG B B1 w23J2 w23G w5 HJ5.out w23_i2 HOK5.out w23_inv H64.out).mono ?_
  rintro e w6 ⟨rfl, g6⟩
  rw [w23_v2]
  have HJ6 := Lib.hid (HJ5.out.grow g6); have HOK6 := Lib.hid (HOK5.out.grow g6); have HG6 := Lib.hid (HG5.out.step g6)
  clear g6
  go_wp2_with fail
  refine (jobStep _ SG B B1 w23J2 w23G w6 HJ6.out w23_i2 HOK6.out w23_inv HSJ.out).mono ?_
  rintro e w7 ⟨rfl, hj7, m7⟩
  rw [w23_s2] at hj7
  rw [w23_s2, w23_e3]
  have HJ7 := Lib.hid hj7; have HOK7 := Lib.hid (HOK6.out.keep m7 HSJ.out); have HG7 := Lib.hid (HG6.out.modd m7 HH.out)
  clear hj7 m7
  go_wp2_with fail
  refine (jobVerdict _ SG B B1 w23J3 w23G w7 HJ7.out w23_i3 HOK7.out w23_inv H64.out).mono ?_
  rintro e w8 ⟨rfl, g8⟩
  rw [w23_v3]
  have HJ8 := Lib.hid (HJ7.out.grow g8); have HG8 := Lib.hid (HG7.out.step g8)
  clear g8
  go_wp2_with fail
  refine (jobAt _ B w23J3 w8 HJ8.out).mono ?_
  rintro e w8' ⟨rfl, hw⟩
  have hw' := hw.symm
  subst hw'
  have hp1 : w23J3.pos = 4 := rfl
  rw [hp1]
  clear hw hp1
  go_wp2_with fail
  refine (jobLeft _ B w23J3 w8 HJ8.out w23_i3).mono ?_
  rintro e w8' ⟨rfl, hw⟩
  have hw' := hw.symm
  subst hw'
  have hp1 : w23J3.tch.length = 0 := rfl
  rw [hp1]
  clear hw hp1
  go_wp2
  go_ret
  exact ⟨rfl, HG8.out⟩
end Go.Hg

namespace Go.Hg
open Go.RowKit Go.Proofs

theorem SlR.sliced {α : Type} {S : Nat → Prop} {w : World} {sz : Nat} {R : α → List Value → Prop} {a : Option Addr} {n cap : Nat} {l : List α} (h : SlR S w sz R (.slice a n cap) l) (k : Nat) (hk : k ≤ l.length) : SlR S w sz R (sliced a k n cap sz) (l.drop k) := by
  have hh := h
  obtain ⟨a', cap', rows, hv, h1, h2, h3, h4, h5⟩ := h
  simp only [Value.slice.injEq] at hv
  obtain ⟨rfl, rfl, rfl⟩ := hv
  by_cases h0 : k = l.length
  · subst h0
    rw [List.drop_length]
    exact ⟨_, cap - l.length, [], by unfold Go.sliced; rw [Nat.sub_self]; rfl, by simp, by omega, rfl, by simp, by simp⟩
  · obtain ⟨b, off, rfl, -⟩ := h5 (by omega)
    have h6 := hh.dropS k hk
    have e : (⟨b, off, none⟩ : Addr).add (k * sz) = ⟨b, off + k * sz, none⟩ := by unfold Addr.add; split <;> simp_all
    unfold Go.sliced
    rw [if_neg (by omega)]
    show SlR S w sz R (.slice (some ((⟨b, off, none⟩ : Addr).add (k * sz))) (l.length - k) (cap - k)) (l.drop k)
    rw [e]
    exact h6
section
variable {P : Program} {ops : Array Oper} {rest : List Oper} {o : Oper} {a : Act} {Q : Exit → Act → World → Prop} {α : Type} {S : Nat → Prop} {w : World} {R : α → List Value → Prop}
theorem wpList_dropS (hgd : o.guard = none) (s lo : Operand) (t e : TypeId) (hop : o.op = Op.slice t s (some lo) none none) (ht : P.underlying t = some (.slice e)) (sz : Nat) (hsz : ∀ w, (sizeOf e).run P w = .ok sz w) (v : Value) (l : List α) (hs : a.eval s = v) (h : SlR S w sz R v l) (k : Nat) (hlo : a.eval lo = .int .i64 k) (hk : k ≤ l.length)
    (hK : ∀ v', SlR S w sz R v' (l.drop k) → wpList P ops Q rest (a.put o.dst v') w) : wpList P ops Q (o :: rest) a w := by
  obtain ⟨a', cap', rows, rfl, h1, h2, h3, h4, h5⟩ := id h
  have he : P.elem t = e := by unfold Program.elem; rw [ht]
  have ht' : P.underlying t = some (.slice (P.elem t)) := by rw [he]; exact ht
  refine wpList_plain hgd fun K' hK' => ?_
  unfold Oper.wp
  have hr : (Instr.sliceAt t (.slice a' l.length cap') (some (.int .i64 (k : Int))) none none).run P w = .ok (sliced a' k l.length cap' sz) w := by
    rw [run_sliceAt_slice _ _ _ _ _ _ ht', run_slice_l _ _ _ _ _ ht' _ _ (by omega) (by omega), he, hsz]
    rfl
  simp [execOp, hop, hs, hlo, hr, Result.andThen]
  exact hK' _ _ (hK _ (h.sliced k hk))
end
end Go.Hg

namespace Go.Hg
open Go.RowKit Go.Proofs

theorem rjobSet {w : World} {B : Nat} {lv : Value} {J : PJob} {T : TypeId} (h : w.heap[B]? = some (.cells (rjobCells J lv) T (0, 0))) (z : Int) :
    (w.setCell ⟨B, 9, none⟩ (.int .i64 z)).heap[B]? = some (.cells (rjobCells { J with pos := z } lv) T (0, 0)) ∧ Mod (fun b => b = B) w (w.setCell ⟨B, 9, none⟩ (.int .i64 z)) :=
  ⟨by rw [heap_setCell_same w B 9 _ T _ h]; rfl, (Mod.rfl' (fun b => b = B) w).setd (p := ⟨B, 9, none⟩) (.inl rfl) _⟩
theorem rjobSetT {w : World} {B : Nat} {lv : Value} {J : PJob} {T : TypeId} (h : w.heap[B]? = some (.cells (rjobCells J lv) T (0, 0))) (lv2 : Value) (t2 : List Int) :
    (w.setCell ⟨B, 10, none⟩ lv2).heap[B]? = some (.cells (rjobCells { J with tch := t2 } lv2) T (0, 0)) ∧ Mod (fun b => b = B) w (w.setCell ⟨B, 10, none⟩ lv2) :=
  ⟨by rw [heap_setCell_same w B 10 _ T _ h]; rfl, (Mod.rfl' (fun b => b = B) w).setd (p := ⟨B, 10, none⟩) (.inl rfl) _⟩
theorem rjobFroz {w : World} {B : Nat} {lv : Value} {J : PJob} {T : TypeId} (h : w.heap[B]? = some (.cells (rjobCells J lv) T (0, 0))) (i : Nat) : w.frozen? ⟨B, i, none⟩ = false := by simp [World.frozen?, h]
theorem RJobOk.setPos {S : Nat → Prop} {w : World} {B : Nat} {J : PJob} (h : RJobOk S w B J) (z : Int) : RJobOk S (w.setCell ⟨B, 9, none⟩ (.int .i64 z)) B { J with pos := z } ∧ Mod (fun b => b = B) w (w.setCell ⟨B, 9, none⟩ (.int .i64 z)) := by
  obtain ⟨lv, h1, h2, h3⟩ := h
  obtain ⟨a, m⟩ := rjobSet h2 z
  exact ⟨⟨lv, h1, a, h3.modS m (fun b hb => hb.2)⟩, m⟩
theorem RJobOk.setTch {S S' : Nat → Prop} {w : World} {B : Nat} {J : PJob} (h : RJobOk S w B J) (lv : Value) (t : List Int) (hl : IdsR (fun b => S' b ∧ b ≠ B) w lv t) (hS : ∀ b, S b → S' b) : RJobOk S' (w.setCell ⟨B, 10, none⟩ lv) B { J with tch := t } ∧ Mod (fun b => b = B) w (w.setCell ⟨B, 10, none⟩ lv) := by
  obtain ⟨lv0, h1, h2, h3⟩ := h
  obtain ⟨a, m⟩ := rjobSetT h2 lv t
  exact ⟨⟨lv, hS _ h1, a, hl.modS m (fun b hb => hb.2)⟩, m⟩
theorem sizeI64 (w : World) : (sizeOf 2).run Tryz.prog w = .ok 1 w := Tryz.sizeOf2 w

set_option maxRecDepth 100000 in
set_option maxHeartbeats 8000000 in
theorem ref23Step (S SG : Nat → Prop) (B BG : Nat) (J : PJob) (G : PGraph) (w : World) (h : RJobOk S w B J) (hi : JobInv J) (hg : GraphOk 42 SG w BG G) (hG : GInv G) (hsep : ∀ b, SG b → ¬ S b) :
    Calls Tryz.prog 26 #[.pointer (some ⟨B, 0, none⟩), .pointer (some ⟨BG, 0, none⟩)] w fun e w' => e = .returned (.bool (endedJ (stepJ G J) G.next)) ∧ RJobOk S w' B (stepJ G J) ∧ Mod (fun b => b = B) w w' := by
  have HJ := Lib.hid h
  obtain ⟨lv, hS, hB, hl⟩ := h
  have HG := Lib.hid hg; have HGI := Lib.hid hG
  have HSEP := Lib.hid (show ∀ b, SG b → ¬ b = B from fun b hb e => hsep b hb (e ▸ hS))
  have HTL := Lib.hid (show J.tch.length ≤ 4096 from hi.2.2.2.2.2.1)
  obtain ⟨c, hcN⟩ : ∃ c : Nat, J.chunk = (c : Int) := ⟨J.chunk.toNat, by have := hi.1; omega⟩
  have hcl : 1 ≤ c ∧ c ≤ 1024 := by have := hi.1; have := hi.2.1; omega
  obtain ⟨m, hmN⟩ : ∃ m : Nat, m = min c J.tch.length := ⟨_, rfl⟩
  have hmc : m ≤ c ∧ m ≤ J.tch.length ∧ (m < c → J.tch.length = m) := by omega
  have HSA := Lib.hid (show m = c → stepJ G J = { J with tch := J.tch.drop m } from fun h => by
    unfold stepJ
    simp only [hcN, Int.toNat_natCast]
    rw [← hmN, if_neg (by omega)])
  have HSB := Lib.hid (show m < c → c - m < (idsG G J.pos).length → ∀ x, (idsG G J.pos)[c - m - 1]? = some x → stepJ G J = { J with tch := J.tch.drop m, pos := x + 1 } from fun h hx x he => by
    unfold stepJ
    simp only [hcN, Int.toNat_natCast]
    rw [← hmN, if_pos h, if_pos hx, List.getD_eq_getElem?_getD, he]
    rfl)
  have HSC := Lib.hid (show m < c → (idsG G J.pos).length ≤ c - m → stepJ G J = { J with tch := J.tch.drop m, pos := G.next } from fun h hx => by
    unfold stepJ
    simp only [hcN, Int.toNat_natCast]
    rw [← hmN, if_pos h, if_neg (by omega)])
  have HL := Lib.hid hl; have HB := Lib.hid hB
  obtain ⟨al, cl, rfl, hll, hlc, -⟩ := SlR.open hl
  unfold maxLen at hlc
  obtain ⟨-, c8, c9, c10⟩ := rjobB_of hB
  rw [hcN] at c8
  have HCN := Lib.hid hcN
  have hbl := blk_lt hB
  clear hg hG hsep hB hi hl hcN
  go_enter Tryz.func26, Tryz.ntmps26
  go_upto_region 1 with fail
  go_cut [5] (fun v wx => v = .int .i64 (m : Int) ∧ Grow w wx)
  case first =>
    by_cases hlt : J.tch.length < c
    · go_wp2_with fail
      refine wp_region_grow (by kernel_rfl) (by kernel_rfl) ?_
      repeat (go_big_quiet_step (fail))
      refine wpQuiet_nil ?_
      intro w2 hw2
      go_wp2_with fail
      go_meet
      exact ⟨by congr 1; omega, hw2⟩
    · go_wp2_with fail
      refine wp_region_grow (by kernel_rfl) (by kernel_rfl) ?_
      repeat (go_big_quiet_step (fail))
      refine wpQuiet_nil ?_
      intro w2 hw2
      go_wp2_with fail
      go_meet
      exact ⟨by congr 1; omega, hw2⟩
  case rest =>
    obtain ⟨rfl, hg1⟩ := hcut
    obtain ⟨w1, rfl⟩ : ∃ w1, w1 = wc := ⟨_, rfl⟩
    clear hmN
    have HG1 := Lib.hid hg1
    have HB1 := Lib.hid ((hg1.heapEq hbl).trans HB.out)
    have HL1 := Lib.hid (HL.out.growS hg1)
    have HJ1 := Lib.hid (HJ.out.grow hg1)
    have hbl1 : B < w1.heap.size := Nat.lt_of_lt_of_le hbl hg1.size
    obtain ⟨-, d8, d9, d10⟩ := rjobB_of HB1.out
    rw [HCN.out] at d8
    have f10 := rjobFroz HB1.out 10
    have hmI : (0 : Int) ≤ (m : Int) := by omega
    have hmI2 : (m : Int) ≤ (J.tch.length : Int) := by omega
    clear hg1 c8 c9 c10
    go_wp2_with (refine wpList_dropS (by rfl) (.tmp 21) (.tmp 22) 25 2 (by rfl) Tryz.underlying25 1 sizeI64 (.slice al J.tch.length cl) J.tch (by rfl) HL1.out m (by rfl) hmc.2.1 ?_)
    intro lv2 hl2
    have HS2 := Lib.hid (HJ1.out.setTch lv2 _ hl2 (fun _ h => h))
    generalize J.tch.drop m = T2 at *
    obtain ⟨a2, c2, rfl, hll2, hlc2, -⟩ := SlR.open hl2
    obtain ⟨w2, hw2⟩ : ∃ w2, w1.setCell ⟨B, 10, none⟩ (.slice a2 T2.length c2) = w2 := ⟨_, rfl⟩
    rw [hw2] at HS2
    have HJ2 := Lib.hid HS2.out.1
    have HMW2 := Lib.hid (show Mod (fun b => b = B) w w2 from (Mod.of_grow HG1.out).step HS2.out.2)
    have HG2 := Lib.hid (show GraphOk 42 SG w2 BG G from (HG.out.grow HG1.out).keep HS2.out.2 HSEP.out)
    obtain ⟨lw, -, hB2, -⟩ := HJ2.out
    have HB2 := Lib.hid hB2
    have HGR := Lib.hid HG2.out.read
    obtain ⟨-, e8, e9, -⟩ := rjobB_of hB2
    rw [HCN.out] at e8
    have hbl2 := blk_lt hB2
    clear hl2 d9 hB2
    by_cases hlt : m < c
    · obtain ⟨q, rfl⟩ : ∃ q : Nat, c = m + q := ⟨c - m, by omega⟩
      have hq : 0 < q ∧ q ≤ 1024 := by omega
      go_wp2_with fail
      try rw [hw2]
      clear hw2
      refine (ref23Ids SG BG G J.pos w2 HG2.out HGI.out).mono ?_
      rintro e w5 ⟨v5, rfl, hl5, g5⟩
      have HL5 := Lib.hid hl5
      obtain ⟨ai, ci, rfl, hli, hci, hAL⟩ := hl5.at1
      unfold maxLen at hci
      have HLB := Lib.hid (show ∀ x ∈ idsG G J.pos, 1 ≤ x ∧ x < G.next from fun x hx => idsG_bounds HGI.out hx)
      have HLL := Lib.hid (show (idsG G J.pos).length ≤ 1024 by have := idsG_len G J.pos; have := HGI.out.items; omega)
      have HAL := Lib.hid hAL
      have HB5 := Lib.hid ((g5.heapEq hbl2).trans HB2.out)
      have HJ5 := Lib.hid (HJ2.out.grow g5); have HG5 := Lib.hid (HG2.out.grow g5); have HMW5 := Lib.hid (HMW2.out.step (Mod.of_grow g5))
      have HNX := Lib.hid HGI.out.next1
      clear hl5 g5 hAL e8 e9
      generalize idsG G J.pos = l at *
      obtain ⟨-, e8, e9, -⟩ := rjobB_of HB5.out
      rw [HCN.out] at e8
      by_cases hlen : q < l.length
      · have hlx : l[q - 1]? = some l[q - 1] := List.getElem?_eq_getElem (by omega)
        obtain ⟨bl, ol, rfl, hSl, hbl5, hcx⟩ := HAL.out (q - 1) _ hlx
        have HX := Lib.hid (HLB.out _ (List.getElem_mem (show q - 1 < l.length by omega)))
        have HSE := Lib.hid (HSB.out (by omega) (by omega) l[q - 1] (by rw [show m + q - m - 1 = q - 1 by omega]; exact hlx))
        generalize l[q - 1] = x at *
        have hx1 : 1 ≤ x ∧ x + 1 ≤ 4611686018427387904 := by have := HX.out; have := HNX.out; omega
        have f9 := rjobFroz HB5.out 9
        have hq1 : (0 : Int) < (q : Int) := by omega
        have hq2 : (q : Int) < (l.length : Int) := by omega
        clear hlx
        obtain ⟨w6, hw6⟩ : ∃ w6, w5.setCell ⟨B, 9, none⟩ (.int .i64 (x + 1)) = w6 := ⟨_, rfl⟩
        have HS6 := Lib.hid (HJ5.out.setPos (x + 1))
        rw [hw6] at HS6
        go_wp2_with fail
        try rw [hw6]
        clear hw6
        have HJ6 := Lib.hid (show RJobOk S w6 B (stepJ G J) by rw [HSE.out]; exact HS6.out.1)
        have HG6 := Lib.hid (HG5.out.keep HS6.out.2 HSEP.out)
        have HM6 := Lib.hid (HMW5.out.step HS6.out.2)
        refine (ref23Ended S SG B BG (stepJ G J) G w6 HJ6.out HG6.out).mono ?_
        rintro e w7 ⟨rfl, g7⟩
        have HJ7 := Lib.hid (HJ6.out.grow g7); have HM7 := Lib.hid (HM6.out.step (Mod.of_grow g7))
        clear g7
        go_wp2
        go_ret
        exact ⟨rfl, HJ7.out, HM7.out⟩
      · obtain ⟨_, _, _, _, -, -, -, k2, -, -⟩ := HG5.out.read
        have HSE := Lib.hid (HSC.out (by omega) (by omega))
        have f9 := rjobFroz HB5.out 9
        have hq1 : (0 : Int) < (q : Int) := by omega
        have hq2 : (l.length : Int) ≤ (q : Int) := by omega
        obtain ⟨w6, hw6⟩ : ∃ w6, w5.setCell ⟨B, 9, none⟩ (.int .i64 (G.next)) = w6 := ⟨_, rfl⟩
        have HS6 := Lib.hid (HJ5.out.setPos (G.next))
        rw [hw6] at HS6
        go_wp2_with fail
        try rw [hw6]
        clear hw6
        have HJ6 := Lib.hid (show RJobOk S w6 B (stepJ G J) by rw [HSE.out]; exact HS6.out.1)
        have HG6 := Lib.hid (HG5.out.keep HS6.out.2 HSEP.out)
        have HM6 := Lib.hid (HMW5.out.step HS6.out.2)
        refine (ref23Ended S SG B BG (stepJ G J) G w6 HJ6.out HG6.out).mono ?_
        rintro e w7 ⟨rfl, g7⟩
        have HJ7 := Lib.hid (HJ6.out.grow g7); have HM7 := Lib.hid (HM6.out.step (Mod.of_grow g7))
        clear g7
        go_wp2
        go_ret
        exact ⟨rfl, HJ7.out, HM7.out⟩
    · obtain rfl : m = c := by omega
      have HSE := Lib.hid (HSA.out rfl)
      have HJ6 := Lib.hid (show RJobOk S w2 B (stepJ G J) by rw [HSE.out]; exact HJ2.out)
      go_wp2_with fail
      try rw [hw2]
      clear hw2
      refine (ref23Ended S SG B BG (stepJ G J) G w2 HJ6.out HG2.out).mono ?_
      rintro e w7 ⟨rfl, g7⟩
      have HJ7 := Lib.hid (HJ6.out.grow g7); have HM7 := Lib.hid (HMW2.out.step (Mod.of_grow g7))
      clear g7
      go_wp2
      go_ret
      exact ⟨rfl, HJ7.out, HM7.out⟩
end Go.Hg

namespace Go.Hg
open Go.RowKit Go.Proofs

section
variable {P : Program} {ops : Array Oper} {Q : Exit → Act → World → Prop} {md : Region.Mode} {S : World → Prop}

def waitsOn (md : Region.Mode) (ops : Array Oper) (z i : Nat) : Bool := (ops[z]?).any fun o => o.after.any fun e => Region.binds md e && e.on == i
def wpAnyZ (P : Program) (md : Region.Mode) (ops : Array Oper) (Q : Exit → Act → World → Prop) (S : World → Prop) (z : Nat) : Nat → Array Bool → Act → World → Prop
  | 0, done, a, w => Region.ready md ops done = [] ∧ Q .normal a w
  | n + 1, done, a, w => (Region.ready md ops done = [] → Q .normal a w) ∧ ∀ i ∈ Region.ready md ops done, wpOp P ops Q i (fun a' w' => (i ≠ z → S w') ∧ wpAnyZ P md ops Q S z n (done.setIfInBounds i true) a' w') a w
theorem wpAnyZ.any {z : Nat} : ∀ {n : Nat} {done : Array Bool} {a : Act} {w : World}, wpAnyZ P md ops Q S z n done a w → wpAny P md ops Q n done a w
  | 0, _, _, _, h => h
  | _ + 1, _, _, _, h => ⟨h.1, fun i hi => wpOp_mono (fun _ _ h' => h'.2.any) (h.2 i hi)⟩
theorem ready_off {i : Nat} {done : Array Bool} (h : i ∈ Region.ready md ops done) {j : Nat} {oj : Oper} (hj : ops[j]? = some oj) (hr : j ∈ Region.ready md ops done) : ∀ e ∈ oj.after, Region.binds md e = true → e.on ≠ i := by
  obtain ⟨-, o2, ho2, hall⟩ := mem_ready.1 hr
  obtain rfl : oj = o2 := Option.some.inj (hj.symm.trans ho2)
  rintro e he hb rfl
  have h1 := hall e he hb
  have h0 := (mem_ready.1 h).1
  rcases Nat.lt_or_ge e.on done.size with h' | h'
  · simp [h'] at h0 h1; rw [h0] at h1; cases h1
  · simp [Array.getElem?_eq_none h'] at h1
theorem not_last {z i : Nat} (hz : waitsOn md ops z i = true) {done : Array Bool} (h : i ∈ Region.ready md ops done) : z ∉ Region.ready md ops done := by
  intro hr
  unfold waitsOn at hz
  cases ho : ops[z]? with
  | none => rw [ho] at hz; cases hz
  | some o =>
    rw [ho] at hz
    obtain ⟨e, he, h2⟩ := Array.any_eq_true'.1 hz
    rw [Bool.and_eq_true] at h2
    exact ready_off h ho hr e he h2.1 (by simpa using h2.2)
theorem wpAnyZ_front {z i : Nat} {oi : Oper} {v : Value} (hz : waitsOn md ops z i = true) (hi : ops[i]? = some oi) (hsel : ∀ (j : Nat) (o : Oper) cs b, ops[j]? = some o → o.op ≠ .select cs b)
    (hQ : ∀ c a w, Q (.panic c) (a.put oi.dst v) w → Q (.panic c) a w) (n : Nat) : ∀ (done : Array Bool) (a : Act) (w : World),
      (∀ j oj, ops[j]? = some oj → j ≠ i → done.getD j true = false → (∀ e ∈ oj.after, Region.binds md e = true → e.on ≠ i) → oi.apart ops oj = true) →
      i ∈ Region.ready md ops done → YieldsIf P ops S oi v a → S w → wpAnyZ P md ops Q S z n (done.setIfInBounds i true) (a.put oi.dst v) w → wpAnyZ P md ops Q S z (n + 1) done a w := by
  induction n with
  | zero =>
    intro done a w _ hr hy hS H
    refine ⟨fun h => absurd (h ▸ hr) (by simp), fun j hj => ?_⟩
    by_cases hji : j = i
    · subst hji; exact hy.wpOp hi hS ⟨fun _ => hS, H⟩
    · exact absurd (H.1 ▸ ready_mono hj hji) (by simp)
  | succ n ih =>
    intro done a w hfree hr hy hS H
    refine ⟨fun h => absurd (h ▸ hr) (by simp), fun j hj => ?_⟩
    by_cases hji : j = i
    · subst hji; exact hy.wpOp hi hS ⟨fun _ => hS, H⟩
    · have hjz : j ≠ z := fun e => not_last hz hr (e ▸ hj)
      obtain ⟨hun, oj, hoj, -⟩ := mem_ready.1 hj
      have h2 := wpOp_putIf hoj (hfree j oj hoj hji hun (ready_off hr hoj hj)) (fun cs b => hsel i oi cs b hi) (fun cs b => hsel j oj cs b hoj) hQ hy (H.2 j (ready_mono hj hji))
      refine wpOp_mono (fun a' w' h3 => ⟨h3.2.1, ih (done.setIfInBounds j true) a' w' (fun k ok hk hki hu hno => hfree k ok hk hki ?_ hno) (ready_mono hr (Ne.symm hji)) h3.1 (h3.2.1 hjz) ?_⟩) h2
      · by_cases hjk : j = k
        · subst hjk; exact hun
        · rwa [getD_set_ne true hjk] at hu
      · rw [Array.setIfInBounds_comm _ _ hji]
        exact h3.2.2
theorem wpAnyZ_take {z i : Nat} {oi : Oper} {v : Value} {n : Nat} {done : Array Bool} {a : Act} {w : World} (hz : waitsOn md ops z i = true) (hi : ops[i]? = some oi)
    (hs : Region.noSelect ops = true) (hf : Region.free md ops done i = true) (hr : (Region.ready md ops done).contains i = true)
    (hQ : ∀ c a w, Q (.panic c) (a.put oi.dst v) w → Q (.panic c) a w) (hy : YieldsIf P ops S oi v a) (hS : S w)
    (h : wpAnyZ P md ops Q S z n (done.setIfInBounds i true) (a.put oi.dst v) w) : wpAnyZ P md ops Q S z (n + 1) done a w :=
  wpAnyZ_front hz hi (Region.noSelect_spec hs) hQ n done a w (Region.free_spec hi hf) (by simpa using hr) hy hS h
def AllZ (P : Program) (md : Region.Mode) (ops : Array Oper) (Q : Exit → Act → World → Prop) (S : World → Prop) (z n : Nat) (done : Array Bool) (a : Act) (w : World) (rs : List Nat) : Prop :=
  ∀ i ∈ rs, wpOp P ops Q i (fun a' w' => (i ≠ z → S w') ∧ wpAnyZ P md ops Q S z n (done.setIfInBounds i true) a' w') a w
theorem AllZ.nil {z n : Nat} {done : Array Bool} {a : Act} {w : World} : AllZ P md ops Q S z n done a w [] := fun _ h => by cases h
theorem AllZ.cons {z n : Nat} {done : Array Bool} {a : Act} {w : World} {i : Nat} {o : Oper} {rs : List Nat} (ho : ops[i]? = some o)
    (h : ∀ K' : Act → World → Prop, Shut (∀ a w, S w → (S w → wpAnyZ P md ops Q S z n (done.setIfInBounds i true) a w) → K' a w) → if Region.wanted o (yielded ops a.tmps) = true then Oper.wp P o a w K' Q else K' (a.put o.dst undef) w)
    (hs : AllZ P md ops Q S z n done a w rs) : AllZ P md ops Q S z n done a w (i :: rs) := fun j hj => by
  rcases List.mem_cons.1 hj with rfl | hj
  · exact wpOp_step ho (fun K' hK => h K' (fun a w hS hW => hK a w ⟨fun _ => hS, hW hS⟩))
  · exact hs j hj
theorem AllZ.last {z n : Nat} {done : Array Bool} {a : Act} {w : World} {o : Oper} (ho : ops[z]? = some o)
    (h : ∀ K' : Act → World → Prop, Shut (∀ a w, wpAnyZ P md ops Q S z n (done.setIfInBounds z true) a w → K' a w) → if Region.wanted o (yielded ops a.tmps) = true then Oper.wp P o a w K' Q else K' (a.put o.dst undef) w) :
    AllZ P md ops Q S z n done a w [z] := fun j hj => by
  obtain rfl : j = z := by simpa using hj
  exact wpOp_step ho (fun K' hK => h K' (fun a w hW => hK a w ⟨fun e => absurd rfl e, hW⟩))
theorem wpAnyZ_ready {rs : List Nat} {z n : Nat} {done : Array Bool} {a : Act} {w : World} (hr : Region.ready md ops done = rs) (hne : rs ≠ []) (h : AllZ P md ops Q S z n done a w rs) : wpAnyZ P md ops Q S z (n + 1) done a w :=
  ⟨fun h0 => absurd (hr ▸ h0) hne, hr ▸ h⟩
theorem wpAnyZ_done {z : Nat} {done : Array Bool} {a : Act} {w : World} (hr : Region.ready md ops done = []) (h : Q .normal a w) : ∀ n, wpAnyZ P md ops Q S z n done a w
  | 0 => ⟨hr, h⟩
  | _ + 1 => ⟨fun _ => h, by rw [hr]; simp⟩
theorem wp_region_Z {id z : Nat} {a : Act} {w : World} (hm : P.follows .mixedOrders = true) (hS : S w.drew)
    (h : S w.drew → wpAnyZ P .any ops Q S z ops.size (Array.replicate ops.size false) a w.drew) : (Code.region id ops true).wp P Q a w :=
  wp_region_any hm (h hS).any
theorem exec_takeS {o : Oper} {a : Act} {w : World} (s hi : Operand) (t e : TypeId) (hop : o.op = Op.slice t s none (some hi) none) (ht : P.underlying t = some (.slice e)) (sz : Nat) (hsz : ∀ w, (sizeOf e).run P w = .ok sz w)
    (av : Option Addr) (n cap k : Nat) (hs : a.eval s = .slice av n cap) (hhi : a.eval hi = .int .i64 k) (hk : k ≤ cap) : (execOp a.eval o).run P w = .ok (.value (.slice av k cap)) w := by
  have he : P.elem t = e := by unfold Program.elem; rw [ht]
  have ht' : P.underlying t = some (.slice (P.elem t)) := by rw [he]; exact ht
  have hr : (Instr.sliceAt t (.slice av n cap) none (some (.int .i64 (k : Int))) none).run P w = .ok (.slice av k cap) w := by
    rw [run_sliceAt_slice _ _ _ _ _ _ ht', run_slice_h _ _ _ _ _ ht' _ _ (by omega) (by omega), he, hsz]
    have e : Go.sliced av 0 (k : Int).toNat cap sz = .slice av k cap := by
      unfold Go.sliced
      by_cases hc : cap = 0
      · rw [if_pos hc]; simp
      · rw [if_neg hc]
        cases av with
        | none => simp
        | some x => cases x; simp [Addr.add]
    simp only [Result.andThen, e]
  simp [execOp, hop, hs, hhi, hr, Result.andThen]
theorem exec_dropS {o : Oper} {a : Act} {w : World} (s lo : Operand) (t e : TypeId) (hop : o.op = Op.slice t s (some lo) none none) (ht : P.underlying t = some (.slice e)) (sz : Nat) (hsz : ∀ w, (sizeOf e).run P w = .ok sz w)
    (av : Option Addr) (n cap k : Nat) (hs : a.eval s = .slice av n cap) (hlo : a.eval lo = .int .i64 k) (hk : k ≤ n) : (execOp a.eval o).run P w = .ok (.value (sliced av k n cap sz)) w := by
  have he : P.elem t = e := by unfold Program.elem; rw [ht]
  have ht' : P.underlying t = some (.slice (P.elem t)) := by rw [he]; exact ht
  have hr : (Instr.sliceAt t (.slice av n cap) (some (.int .i64 (k : Int))) none none).run P w = .ok (sliced av k n cap sz) w := by
    rw [run_sliceAt_slice _ _ _ _ _ _ ht', run_slice_l _ _ _ _ _ ht' _ _ (by omega) (by omega), he, hsz]
    rfl
  simp [execOp, hop, hs, hlo, hr, Result.andThen]
end
end Go.Hg
