/- Two graphs side by side, the program's and the reference's; hedgerowlaw17.Same of equal ones; The graph of wakes, of layer 18; hedgerowlaw17.wakes: true; law18.Made: a graph of changes, and the document's; law18.Made as the laws behind it want it; small facts; A law's row: how it is closed where the call returns true and nothing that was there has turned; A law's row: its argument of operations, opened; A law's row: arguments of other types, opened; A law's row: nodes, edges, catalogs, opened; A law's row: numbers, texts, pairs of numbers, opened; Arguments: rules, catalogs (the rules' Ids are numbers of 64 bits), spots; append of a whole slice to an empty one: a copy of one's own; append at a row of structs, as a step of a drawn region; law20.Fair, Own: what they return; hedgerowkeep.CopyCat: the same in new memory. Conditions: those that each theorem names. -/
import Derived.Test.YtanijffgogpmdaaGreatChkM
import Derived.Test.YtanijffgogpmdaaGreatChkE
import Derived.Test.YtanijffgogpmdaaGreatChkF
import Derived.Test.YtanijffgogpmdaaGreatChkC
import Derived.Test.YtanijffgogpmdaaGreatChkA
import Derived.Test.YtanijffgogpmdaaGreatChkI
import Derived.RowKit
import Derived.ReadAgain
import Derived.ChangeOld
import Derived.Deep.Slices
import Derived.OpenShut
import Derived.Test.YtanijffgogpmdaaGreatChkK
import Derived.Test.YtanijffgogpmdaaGreatChkD
import Derived.Test.YtanijffgogpmdaaGreatChkJ
import Derived.Laws.ResultCell
namespace Go.Hg
open Go.RowKit Go.Proofs

/-- two graphs that lie apart, both of memory that is newer than w1's -/
def Pair (T1 T2 : TypeId) (w1 w : World) (B1 B2 : Nat) (G1 G2 : PGraph) : Prop :=
  ∃ S1 S2 : Nat → Prop, GraphOk T1 S1 w B1 G1 ∧ GraphOk T2 S2 w B2 G2 ∧ (∀ b, S1 b → ¬ S2 b) ∧ (∀ b, S1 b → w1.heap.size ≤ b ∧ b < w.heap.size) ∧ (∀ b, S2 b → w1.heap.size ≤ b ∧ b < w.heap.size) ∧ Grow w1 w
theorem Pair.grow {T1 T2 : TypeId} {w1 w w' : World} {B1 B2 : Nat} {G1 G2 : PGraph} (h : Pair T1 T2 w1 w B1 B2 G1 G2) (g : Grow w w') : Pair T1 T2 w1 w' B1 B2 G1 G2 := by
  obtain ⟨S1, S2, h1, h2, h3, h4, h5, h6⟩ := h
  exact ⟨S1, S2, h1.grow g, h2.grow g, h3, fun b hb => ⟨(h4 b hb).1, Nat.lt_of_lt_of_le (h4 b hb).2 g.size⟩, fun b hb => ⟨(h5 b hb).1, Nat.lt_of_lt_of_le (h5 b hb).2 g.size⟩, h6.step g⟩
theorem Pair.swap {T1 T2 : TypeId} {w1 w : World} {B1 B2 : Nat} {G1 G2 : PGraph} (h : Pair T1 T2 w1 w B1 B2 G1 G2) : Pair T2 T1 w1 w B2 B1 G2 G1 := by
  obtain ⟨S1, S2, h1, h2, h3, h4, h5, h6⟩ := h
  exact ⟨S2, S1, h2, h1, fun b hb hb' => h3 b hb' hb, h5, h4, h6⟩
theorem Pair.left {T1 T2 : TypeId} {w1 w : World} {B1 B2 : Nat} {G1 G2 : PGraph} (h : Pair T1 T2 w1 w B1 B2 G1 G2) : ∃ S, GraphOk T1 S w B1 G1 := by
  obtain ⟨S1, S2, h1, _⟩ := h
  exact ⟨S1, h1⟩
theorem Pair.grown {T1 T2 : TypeId} {w1 w : World} {B1 B2 : Nat} {G1 G2 : PGraph} (h : Pair T1 T2 w1 w B1 B2 G1 G2) : Grow w1 w := by
  obtain ⟨_, _, _, _, _, _, _, h⟩ := h; exact h
/-- the first one is changed -/
theorem Pair.step1 {T1 T2 : TypeId} {w1 w w' : World} {B1 B2 : Nat} {G2 G3 : PGraph} {S1 S2 : Nat → Prop} (h2 : GraphOk T2 S2 w B2 G2) (h3 : ∀ b, S1 b → ¬ S2 b) (h4 : ∀ b, S1 b → w1.heap.size ≤ b ∧ b < w.heap.size) (h5 : ∀ b, S2 b → w1.heap.size ≤ b ∧ b < w.heap.size) (h6 : Grow w1 w)
    (k1 : GraphOk T1 (fun b => S1 b ∨ w.heap.size ≤ b) w' B1 G3) (k2 : Mod S1 w w') : Pair T1 T2 w1 w' B1 B2 G3 G2 := by
  have hs := k2.size
  have h1s := h6.size
  refine ⟨fun b => (S1 b ∨ w.heap.size ≤ b) ∧ b < w'.heap.size, S2, k1.cut, h2.keep k2 (fun b hb hb' => h3 b hb' hb), fun b hb hb' => hb.1.elim (fun h => h3 b h hb') (fun h => by have := (h5 b hb').2; omega), fun b hb => ⟨hb.1.elim (fun h => (h4 b h).1) (fun h => by omega), hb.2⟩,
    fun b hb => ⟨(h5 b hb).1, by have := (h5 b hb).2; omega⟩, h6.modd k2 (fun b hb => (h4 b hb).1)⟩
/-- two that are made one behind the other -/
theorem Pair.make {T1 T2 : TypeId} {w1 w2 w3 : World} {B1 B2 : Nat} {G1 G2 : PGraph} (h1 : GraphOk T1 (fun b => w1.heap.size ≤ b) w2 B1 G1) (g1 : Grow w1 w2) (h2 : GraphOk T2 (fun b => w2.heap.size ≤ b) w3 B2 G2) (g2 : Grow w2 w3) : Pair T1 T2 w1 w3 B1 B2 G1 G2 := by
  have hs := g1.size; have hs2 := g2.size
  refine ⟨fun b => w1.heap.size ≤ b ∧ b < w2.heap.size, fun b => w2.heap.size ≤ b ∧ b < w3.heap.size, h1.cut.grow g2, h2.cut, fun b hb hb' => by omega, fun b hb => ⟨hb.1, by omega⟩, fun b hb => ⟨by omega, hb.2⟩, g1.step g2⟩

theorem pairDo1 {T2 : TypeId} (SC : Nat → Prop) (B1 B2 : Nat) (G1 G2 : PGraph) (nv ev rv iv : Value) (c : PCat) (o : POp) (w1 w : World) (h : Pair 120 T2 w1 w B1 B2 G1 G2) (hG : GInv G1) (hc : CatR SC w nv ev rv iv c) :
    Calls Tryz.prog 22 #[.pointer (some ⟨B1, 0, none⟩), c.arg nv ev rv iv, o.args] w fun e w' =>
      e = .returned (.tuple #[.int .i64 (if mayG c o G1 = 0 then idG o G1 else 0), .int .i64 (mayG c o G1)]) ∧ Pair 120 T2 w1 w' B1 B2 (stepG c o G1) G2 := by
  obtain ⟨S1, S2, h1, h2, h3, h4, h5, h6⟩ := h
  exact (graphDo S1 SC B1 G1 nv ev rv iv c o w h1 hG hc).mono fun _ _ ⟨k1, k2, k3⟩ => ⟨k1, Pair.step1 h2 h3 h4 h5 h6 k2 k3⟩
theorem pairDo2 {T2 : TypeId} (SC : Nat → Prop) (B1 B2 : Nat) (G1 G2 : PGraph) (nv ev rv iv : Value) (c : PCat) (o : POp) (w1 w : World) (h : Pair T2 55 w1 w B1 B2 G1 G2) (hG : GInv G2) (hc : CatR SC w nv ev rv iv c) :
    Calls Tryz.prog 49 #[.pointer (some ⟨B2, 0, none⟩), c.arg nv ev rv iv, o.args] w fun e w' =>
      e = .returned (.tuple #[.int .i64 (if mayG c o G2 = 0 then idG o G2 else 0), .int .i64 (mayG c o G2)]) ∧ Pair T2 55 w1 w' B1 B2 G1 (stepG c o G2) := by
  obtain ⟨S1, S2, h1, h2, h3, h4, h5, h6⟩ := h
  exact (refDo S2 SC B2 G2 nv ev rv iv c o w h2 hG hc).mono fun _ _ ⟨k1, k2, k3⟩ => ⟨k1, (Pair.step1 h1 (fun b hb hb' => h3 b hb' hb) h5 h4 h6 k2 k3).swap⟩

theorem keepNodesSame (Sa Sb : Nat → Prop) (va vb : Value) (a : List PNode) (w : World) (ha : NodesR Sa w va a) (hb : NodesR Sb w vb a) :
    Calls Tryz.prog 81 #[va, vb] w fun e w' => e = .returned (.bool true) ∧ Grow w w' :=
  (keepNodes Sa Sb va vb a a w ha hb).mono fun e w' ⟨h, g⟩ => ⟨by rw [h, decide_eq_true rfl], g⟩
theorem keepEdgesSame (Sa Sb : Nat → Prop) (va vb : Value) (a : List PEdge) (w : World) (ha : EdgesR Sa w va a) (hb : EdgesR Sb w vb a) :
    Calls Tryz.prog 82 #[va, vb] w fun e w' => e = .returned (.bool true) ∧ Grow w w' :=
  (keepEdges Sa Sb va vb a a w ha hb).mono fun e w' ⟨h, g⟩ => ⟨by rw [h, decide_eq_true rfl], g⟩
set_option maxRecDepth 100000 in
set_option maxHeartbeats 4000000 in
theorem lawSame (S1 S2 : Nat → Prop) (B1 B2 : Nat) (G : PGraph) (w : World) (h1 : GraphOk 120 S1 w B1 G) (h2 : GraphOk 55 S2 w B2 G) (hi : GInv G) :
    Calls Tryz.prog 35 #[.pointer (some ⟨B1, 0, none⟩), .pointer (some ⟨B2, 0, none⟩)] w fun e w' => e = .returned (.bool true) ∧ Grow w w' := by
  have H1 := Lib.hid h1; have H2 := Lib.hid h2; have HI := Lib.hid hi
  have HNL := Lib.hid (show G.nodes.length ≤ 1099511627776 by have := hi.items; omega)
  have HEL := Lib.hid (show G.edges.length ≤ 1099511627776 by have := hi.items; omega)
  have HNP := Lib.hid (show ∀ x ∈ G.nodes, x.props.length ≤ 1099511627776 from fun x hx => by have := (hi.nodesB x hx).2.2; omega)
  have HEP := Lib.hid (show ∀ x ∈ G.edges, x.props.length ≤ 1099511627776 from fun x hx => by have := (hi.edgesB x hx).2.2; omega)
  obtain ⟨na, nc, ea, ec, hB, c0, c1, c2, hn, he⟩ := h2.rd.read
  have HN := Lib.hid hn; have HE := Lib.hid he
  have HS := Lib.hid (show ∀ w', Grow w w' → (w'.cell? ⟨B2, 0, none⟩ = some (.slice na G.nodes.length nc) ∧ w'.cell? ⟨B2, 1, none⟩ = some (.slice ea G.edges.length ec) ∧ w'.cell? ⟨B2, 2, none⟩ = some (.int .i64 G.next)) from fun w' hg =>
    ⟨(hg.cell (p := ⟨B2, 0, none⟩) hB).trans c0, (hg.cell (p := ⟨B2, 1, none⟩) hB).trans c1, (hg.cell (p := ⟨B2, 2, none⟩) hB).trans c2⟩)
  have HD := Lib.hid (show Grow w w.drew from (Grow.rfl' w).drewd)
  clear h1 h2 hi hn he c0 c1 c2 hB
  go_enter Tryz.func35, Tryz.ntmps35
  go_wp2_with fail
  go_region_held3 (fun w' => w'.cell? ⟨B2, 0, none⟩ = some (.slice na G.nodes.length nc) ∧ w'.cell? ⟨B2, 1, none⟩ = some (.slice ea G.edges.length ec) ∧ w'.cell? ⟨B2, 2, none⟩ = some (.int .i64 G.next)) (first | exact HS.out _ HD.out | exact HS.out _ HG3.out | exact HS.out _ HG4.out | exact HS.out _ HG5.out | exact HS.out _ HG6.out) (first | (go_at_call 20; refine (graphNodes S1 B1 G _ (H1.out.rd.grow HD.out) HNL.out HNP.out).mono ?_; rintro e w3 ⟨v3, on, rfl, hon, -, hg3⟩; have HG3 := Lib.hid (HD.out.step hg3); have HON := Lib.hid (show NodesR (fun _ => True) w3 v3 G.nodes from SlR.sub (hon.toSl (S := fun _ => True) (fun _ _ => trivial)) (fun _ h => h) (fun x r _ hR => hR.sub (fun _ _ => trivial))); obtain ⟨a3, c3, rfl⟩ : ∃ a c, v3 = .slice a G.nodes.length c := (by obtain ⟨_, _, _, h⟩ := hon; obtain ⟨oa, cap, h, _⟩ := h.isSlice; exact ⟨oa, cap, h⟩); clear hon hg3) | (go_at_call 81; refine (keepNodesSame _ _ _ _ G.nodes _ HON.out (HN.out.grow HG3.out)).mono ?_; rintro e w4 ⟨rfl, hg4⟩; have HG4 := Lib.hid (HG3.out.step hg4); clear hg4) | (go_at_call 21; refine (graphEdges S1 B1 G _ (H1.out.rd.grow HG4.out) HEL.out HEP.out).mono ?_; rintro e w5 ⟨v5, oe, rfl, hoe, -, hg5⟩; have HG5 := Lib.hid (HG4.out.step hg5); have HOE := Lib.hid (show EdgesR (fun _ => True) w5 v5 G.edges from SlR.sub (hoe.toSl (S := fun _ => True) (fun _ _ => trivial)) (fun _ h => h) (fun x r _ hR => hR.sub (fun _ _ => trivial))); obtain ⟨a5, c5, rfl⟩ : ∃ a c, v5 = .slice a G.edges.length c := (by obtain ⟨_, _, _, h⟩ := hoe; obtain ⟨oa, cap, h, _⟩ := h.isSlice; exact ⟨oa, cap, h⟩); clear hoe hg5) | (go_at_call 82; refine (keepEdgesSame _ _ _ _ G.edges _ HOE.out (HE.out.grow HG5.out)).mono ?_; rintro e w6 ⟨rfl, hg6⟩; have HG6 := Lib.hid (HG5.out.step hg6); clear hg6) | (go_at_call 83; refine (graphNext S1 B1 G _ (H1.out.grow HG6.out)).mono ?_; rintro e w7 ⟨rfl, rfl⟩))
  go_wp2
  go_ret
  exact ⟨rfl, HG6.out⟩
end Go.Hg

namespace Go.Hg
/-- the graph that Made makes -/
def madeK (k : Nat) (l : List POp) : PGraph := (l.take k).foldl (fun G o => stepG typesC o G) PGraph.empty
def madeG (l : List POp) : PGraph := madeK 60 l
theorem madeK_zero (l : List POp) : madeK 0 l = PGraph.empty := rfl
theorem madeK_succ {l : List POp} {k : Nat} (hk : k < l.length) : madeK (k + 1) l = stepG typesC l[k] (madeK k l) := by
  unfold madeK
  rw [List.take_succ_eq_append_getElem hk, List.foldl_append]
  rfl
theorem madeK_full {l : List POp} {k : Nat} (h : l.length ≤ k ∨ 60 ≤ k) (hk : k ≤ 60) : madeK k l = madeG l := by
  unfold madeG madeK
  rcases h with h | h
  · rw [List.take_of_length_le h, List.take_of_length_le (by omega)]
  · have : k = 60 := by omega
    rw [this]
theorem madeK_inv (l : List POp) (k : Nat) : GInv (madeK k l) := by
  unfold madeK
  generalize l.take k = m
  have key : ∀ (m : List POp) (G : PGraph), GInv G → GInv (m.foldl (fun G o => stepG typesC o G) G) := by
    intro m
    induction m with
    | nil => exact fun G h => h
    | cons a t ih => exact fun G h => ih _ h.stepG
  exact key m _ GInv.empty
theorem madeK_good (l : List POp) (k : Nat) : goodG (madeK k l) = true := by
  unfold madeK
  generalize l.take k = m
  have key : ∀ (m : List POp) (G : PGraph), goodG G = true → goodG (m.foldl (fun G o => stepG typesC o G) G) = true := by
    intro m
    induction m with
    | nil => exact fun G h => h
    | cons a t ih => exact fun G h => ih _ (goodG_step typesC_names h)
  exact key m _ goodG_empty
def wa : POp := ⟨1, 0, sMan, 0, 0, ByteArray.empty, ⟨0, 0, ByteArray.empty⟩, false⟩
def wb (x y : Int) : POp := ⟨3, 0, sKnows, x, y, ByteArray.empty, ⟨0, 0, ByteArray.empty⟩, false⟩
def wakeOps : List POp := [wa, wa, wa, wb 1 2, wb 2 3]
def wakeG : PGraph := ⟨[⟨1, sMan, []⟩, ⟨2, sMan, []⟩, ⟨3, sMan, []⟩], [⟨4, sKnows, 1, 2, []⟩, ⟨5, sKnows, 2, 3, []⟩], 6⟩
theorem wake_fair : fairOps wakeOps = true := by decide
theorem wake_made : madeG wakeOps = wakeG := by decide
theorem wake_step {typ : ByteArray} (ht : typ = sKnows ∨ typ = ByteArray.empty) (x y : Int) : StepE wakeG.edges typ x y ↔ (x = 1 ∧ y = 2) ∨ (x = 2 ∧ y = 3) := by
  have hf : ∀ e ∈ wakeG.edges, fitE typ e = true := by
    intro e he
    simp only [wakeG, List.mem_cons, List.not_mem_nil, or_false] at he
    rcases ht with rfl | rfl <;> rcases he with rfl | rfl <;> simp [fitE]
  constructor
  · rintro ⟨e, he, -, h3, h4⟩
    simp only [wakeG, List.mem_cons, List.not_mem_nil, or_false] at he
    rcases he with rfl | rfl
    · exact .inl ⟨h3.symm, h4.symm⟩
    · exact .inr ⟨h3.symm, h4.symm⟩
  · rintro (⟨rfl, rfl⟩ | ⟨rfl, rfl⟩)
    · exact ⟨⟨4, sKnows, 1, 2, []⟩, by simp [wakeG], hf _ (by simp [wakeG]), rfl, rfl⟩
    · exact ⟨⟨5, sKnows, 2, 3, []⟩, by simp [wakeG], hf _ (by simp [wakeG]), rfl, rfl⟩
theorem wake_rch : RSet [2, 3] (Rch wakeG.edges sKnows 2 1) := by
  refine ⟨by simp, fun y => ?_⟩
  simp only [Rch, wake_step (.inl rfl), List.mem_cons, List.not_mem_nil, or_false]
  constructor
  · rintro (rfl | rfl)
    · exact .inl (.inl ⟨trivial, rfl⟩)
    · exact .inr ⟨2, .inl (.inl ⟨trivial, rfl⟩), .inr ⟨rfl, rfl⟩⟩
  · rintro ((⟨-, rfl⟩ | ⟨h, -⟩) | ⟨z, -, (⟨-, rfl⟩ | ⟨-, rfl⟩)⟩)
    · exact .inl rfl
    · omega
    · exact .inl rfl
    · exact .inr rfl
theorem wake_path : PathS wakeG.edges ByteArray.empty 1 3 [4, 5] := by
  have hs := fun x y => wake_step (typ := ByteArray.empty) (.inr rfl) x y
  have d1 : Dst wakeG.edges ByteArray.empty 3 1 2 := by
    refine ⟨⟨3, (hs 2 3).2 (.inr ⟨rfl, rfl⟩), rfl⟩, fun m hm hw => ?_⟩
    have : m = 0 := by omega
    subst this
    exact absurd hw (by simp [Wlk])
  have d2 : Dst wakeG.edges ByteArray.empty 3 2 1 := by
    refine ⟨⟨2, (hs 1 2).2 (.inl ⟨rfl, rfl⟩), d1.1⟩, fun m hm hw => ?_⟩
    match m, hm with
    | 0, _ => exact absurd hw (by simp [Wlk])
    | 1, _ =>
      obtain ⟨z, h1, h2⟩ := hw
      rw [hs] at h1
      simp only [Wlk] at h2
      omega
  refine .inr (.inr ⟨by omega, 2, d2, ?_⟩)
  refine ⟨[], ⟨4, sKnows, 1, 2, []⟩, [], [5], by decide, by simp, d1, rfl, ?_⟩
  exact ⟨[], ⟨5, sKnows, 2, 3, []⟩, [], [], by decide, by simp, Dst.zero.2 rfl, rfl, rfl⟩
end Go.Hg

namespace Go.Hg
open Go.RowKit Go.Proofs

/-- Do at a graph that was made behind W0 -/
theorem doOwn (SC : Nat → Prop) (B : Nat) (G : PGraph) (nv ev rv iv : Value) (c : PCat) (o : POp) (W0 w : World) (hg : Grow W0 w) (h : GraphOk 120 (fun b => W0.heap.size ≤ b) w B G) (hG : GInv G) (hc : CatR SC w nv ev rv iv c) :
    Calls Tryz.prog 22 #[.pointer (some ⟨B, 0, none⟩), c.arg nv ev rv iv, o.args] w fun e w' =>
      e = .returned (.tuple #[.int .i64 (if mayG c o G = 0 then idG o G else 0), .int .i64 (mayG c o G)]) ∧ GraphOk 120 (fun b => W0.heap.size ≤ b) w' B (stepG c o G) ∧ Grow W0 w' :=
  (graphDo _ SC B G nv ev rv iv c o w h hG hc).mono fun _ _ ⟨h1, h2, h3⟩ => ⟨h1, h2.sub (fun _ hb => hb.elim id (fun h => Nat.le_trans hg.size h)), hg.modd h3 (fun _ hb => hb)⟩

def sName : ByteArray := ⟨#[110, 97, 109, 101]⟩
def sA : ByteArray := ⟨#[97]⟩
def wo1 : POp := ⟨1, 0, sCity, 0, 0, ByteArray.empty, ⟨0, 0, ByteArray.empty⟩, false⟩
def wo2 : POp := ⟨3, 0, sRoad, 1, 1, ByteArray.empty, ⟨0, 0, ByteArray.empty⟩, false⟩
def wo3 : POp := ⟨2, 1, ByteArray.empty, 0, 0, ByteArray.empty, ⟨0, 0, ByteArray.empty⟩, false⟩
def wo4 : POp := ⟨5, 1, ByteArray.empty, 0, 0, sName, ⟨3, 0, sA⟩, false⟩
def wG1 : PGraph := ⟨[⟨1, sCity, []⟩], [], 2⟩
def wG2 : PGraph := ⟨[⟨1, sCity, []⟩], [⟨2, sRoad, 1, 1, []⟩], 3⟩
def wG4 : PGraph := ⟨[⟨1, sCity, [⟨sName, ⟨3, 0, sA⟩⟩]⟩], [⟨2, sRoad, 1, 1, []⟩], 3⟩
theorem wm1 : mayG typesC wo1 PGraph.empty = 0 := by decide
theorem wg1 : stepG typesC wo1 PGraph.empty = wG1 := by decide
theorem wm2 : mayG typesC wo2 wG1 = 0 := by decide
theorem wg2 : stepG typesC wo2 wG1 = wG2 := by decide
theorem wm3 : mayG typesC wo3 wG2 = 160 := by decide
theorem wg3 : stepG typesC wo3 wG2 = wG2 := by decide
theorem wm4 : mayG typesC wo4 wG2 = 0 := by decide
theorem wg4 : stepG typesC wo4 wG2 = wG4 := by decide
theorem wi1 : GInv wG1 := wg1 ▸ GInv.empty.stepG
theorem wi2 : GInv wG2 := wg2 ▸ wi1.stepG
theorem wi4 : GInv wG4 := wg4 ▸ wi2.stepG

end Go.Hg

namespace Go.Hg
open Go.RowKit Go.Proofs

/-- what Made tells -/
def MadePost (l : List POp) (w : World) (e : Ending) (w' : World) : Prop :=
  (fairOps l = false ∧ e = .returned (.tuple #[.pointer none, .pointer none, .bool false]) ∧ Grow w w') ∨
  (fairOps l = true ∧ ∃ (B1 B2 : Nat), e = .returned (.tuple #[.pointer (some ⟨B1, 0, none⟩), .pointer (some ⟨B2, 0, none⟩), .bool true]) ∧ Pair 120 55 w w' B1 B2 (madeG l) (madeG l))

set_option maxRecDepth 100000 in
set_option maxHeartbeats 8000000 in
theorem lawMade (S : Nat → Prop) (v : Value) (l : List POp) (w : World) (hl : OpsR S w v l) : Calls Tryz.prog 12 #[v] w (MadePost l w) := by
  have HL := Lib.hid hl
  obtain ⟨aa, ca, rfl, hal, hac, hA⟩ := SlR.open hl
  clear hl
  unfold maxLen at hac
  have HA := Lib.hid hA; clear hA
  go_enter Tryz.func12, Tryz.ntmps12
  go_wp2_with fail
  refine (graphNew _).mono ?_
  rintro e w3 ⟨B1, rfl, hgr, hg3⟩
  have HGR3 := Lib.hid hgr; have HG3 := Lib.hid hg3
  clear hgr hg3
  go_wp2_with fail
  refine (refNew _).mono ?_
  rintro e w4 ⟨B2, rfl, hgr, hg4⟩
  have HPR := Lib.hid (Pair.make HGR3.out HG3.out hgr hg4)
  have HG4 := Lib.hid (HG3.out.step hg4)
  clear hgr hg4 HGR3 HG3
  go_wp2_with fail
  refine (lawFair S _ l _ (HL.out.growS HG4.out)).mono ?_
  rintro e w2 ⟨rfl, hg2⟩
  have HP2 := Lib.hid (HPR.out.grow hg2)
  have HG2 := Lib.hid (HG4.out.step hg2)
  clear hg2 HPR HG4
  cases hf : fairOps l
  · have HF := Lib.hid hf
    clear hf
    go_wp2
    go_ret3
    exact .inl ⟨HF.out, rfl, HG2.out⟩
  have HF := Lib.hid hf
  clear hf
  go_wp2
  go_loopg [7] (l.length + 1) (fun g i wr => ∃ (k : Nat), k ≤ l.length ∧ k ≤ 60 ∧ g = l.length + 1 - k ∧ i = .int .i64 k ∧ Pair 120 55 w wr B1 B2 (madeK k l) (madeK k l))
  case atStart => exact ⟨0, by omega, by omega, by omega, rfl, HP2.out⟩
  case round =>
    obtain ⟨k, hk, hk60, rfl, rfl, hpr⟩ := hrel
    have HP := Lib.hid hpr
    clear hpr HP2
    have HGK := Lib.hid HP.out.grown
    by_cases hkl : k < l.length
    · by_cases hk6 : k < 60
      · have HMK := Lib.hid (madeK_succ hkl)
        have HI := Lib.hid (madeK_inv l k)
        generalize madeK k l = G at *
        obtain ⟨ba, oa, ra, rfl, hSa, hba, hRa, hca⟩ := HA.out k l[k] (List.getElem?_eq_getElem hkl)
        have HS := Lib.hid (show ∀ w', Grow w w' → (w'.cell? ⟨ba, oa + k * 10, none⟩ = some (.int .i64 l[k].kind) ∧ w'.cell? ⟨ba, oa + k * 10 + 1, none⟩ = some (.int .i64 l[k].id) ∧ w'.cell? ⟨ba, oa + k * 10 + 2, none⟩ = some (.string l[k].typ) ∧ w'.cell? ⟨ba, oa + k * 10 + 3, none⟩ = some (.int .i64 l[k].from_) ∧ w'.cell? ⟨ba, oa + k * 10 + 4, none⟩ = some (.int .i64 l[k].to_) ∧ w'.cell? ⟨ba, oa + k * 10 + 5, none⟩ = some (.string l[k].name) ∧ w'.cell? ⟨ba, oa + k * 10 + 6, none⟩ = some (.int .i64 l[k].v.kind) ∧ w'.cell? ⟨ba, oa + k * 10 + 7, none⟩ = some (.int .i64 l[k].v.n) ∧ w'.cell? ⟨ba, oa + k * 10 + 8, none⟩ = some (.string l[k].v.s) ∧ w'.cell? ⟨ba, oa + k * 10 + 9, none⟩ = some (.bool l[k].cascade)) from fun w' hg' => (opCells hRa hba hg' hca).2)
        clear hca hRa hSa hba
        generalize l[k] = o at *
        have HD := Lib.hid (show Grow w wr.drew from HP.out.grown.drewd)
        have HPD := Lib.hid (HP.out.grow ((Grow.rfl' wr).drewd))
        go_wp2_with fail
        go_region_held3 (fun w' => w'.cell? ⟨ba, oa + k * 10, none⟩ = some (.int .i64 o.kind) ∧ w'.cell? ⟨ba, oa + k * 10 + 1, none⟩ = some (.int .i64 o.id) ∧ w'.cell? ⟨ba, oa + k * 10 + 2, none⟩ = some (.string o.typ) ∧ w'.cell? ⟨ba, oa + k * 10 + 3, none⟩ = some (.int .i64 o.from_) ∧ w'.cell? ⟨ba, oa + k * 10 + 4, none⟩ = some (.int .i64 o.to_) ∧ w'.cell? ⟨ba, oa + k * 10 + 5, none⟩ = some (.string o.name) ∧ w'.cell? ⟨ba, oa + k * 10 + 6, none⟩ = some (.int .i64 o.v.kind) ∧ w'.cell? ⟨ba, oa + k * 10 + 7, none⟩ = some (.int .i64 o.v.n) ∧ w'.cell? ⟨ba, oa + k * 10 + 8, none⟩ = some (.string o.v.s) ∧ w'.cell? ⟨ba, oa + k * 10 + 9, none⟩ = some (.bool o.cascade)) (first | exact HS.out _ HD.out | exact HS.out _ HT3.out | exact HS.out _ HP4.out.grown) (first | (go_at_call 23; refine (lawTypes _).mono ?_; rintro e wt3 ⟨nv, ev, rfl, hc, hg3⟩; have HC := Lib.hid hc; have HT3 := Lib.hid (HD.out.step hg3); have HTG3 := Lib.hid hg3; obtain ⟨na, nc, ea, ec, ra, rc, ia, ic, rfl, rfl, -, -⟩ := hc.slices; clear hc hg3) | (go_at_call 22; refine (pairDo1 _ B1 B2 G G _ _ _ _ typesC o w _ (HPD.out.grow HTG3.out) HI.out HC.out).mono ?_; rintro e wd4 ⟨rfl, hp4⟩; have HP4 := Lib.hid hp4; clear hp4; generalize (if mayG typesC o G = 0 then idG o G else 0) = rid; generalize mayG typesC o G = rer))
        have HD5 := Lib.hid (show Grow w wd4.drew from HP4.out.grown.drewd)
        have HPD5 := Lib.hid (HP4.out.grow ((Grow.rfl' wd4).drewd))
        go_wp2_with fail
        go_region_held3 (fun w' => w'.cell? ⟨ba, oa + k * 10, none⟩ = some (.int .i64 o.kind) ∧ w'.cell? ⟨ba, oa + k * 10 + 1, none⟩ = some (.int .i64 o.id) ∧ w'.cell? ⟨ba, oa + k * 10 + 2, none⟩ = some (.string o.typ) ∧ w'.cell? ⟨ba, oa + k * 10 + 3, none⟩ = some (.int .i64 o.from_) ∧ w'.cell? ⟨ba, oa + k * 10 + 4, none⟩ = some (.int .i64 o.to_) ∧ w'.cell? ⟨ba, oa + k * 10 + 5, none⟩ = some (.string o.name) ∧ w'.cell? ⟨ba, oa + k * 10 + 6, none⟩ = some (.int .i64 o.v.kind) ∧ w'.cell? ⟨ba, oa + k * 10 + 7, none⟩ = some (.int .i64 o.v.n) ∧ w'.cell? ⟨ba, oa + k * 10 + 8, none⟩ = some (.string o.v.s) ∧ w'.cell? ⟨ba, oa + k * 10 + 9, none⟩ = some (.bool o.cascade)) (first | exact HS.out _ HD5.out | exact HS.out _ HT5.out | exact HS.out _ HP6.out.grown) (first | (go_at_call 23; refine (lawTypes _).mono ?_; rintro e wt5 ⟨nv, ev, rfl, hc, hg3⟩; have HC := Lib.hid hc; have HT5 := Lib.hid (HD5.out.step hg3); have HTG5 := Lib.hid hg3; obtain ⟨na, nc, ea, ec, ra, rc, ia, ic, rfl, rfl, -, -⟩ := hc.slices; clear hc hg3) | (go_at_call 49; refine (pairDo2 _ B1 B2 (stepG typesC o G) G _ _ _ _ typesC o w _ (HPD5.out.grow HTG5.out) HI.out HC.out).mono ?_; rintro e wd6 ⟨rfl, hp6⟩; have HP6 := Lib.hid hp6; clear hp6; generalize (if mayG typesC o G = 0 then idG o G else 0) = rid2; generalize mayG typesC o G = rer2))
        go_wp2_with fail
        go_roundg (l.length + 1 - (k + 1))
        case measure => omega
        case rel => exact ⟨k + 1, by omega, by omega, rfl, by go_num, by rw [HMK.out]; exact HP6.out⟩
      · have HM := Lib.hid (madeK_full (l := l) (k := k) (.inr (by omega)) hk60)
        go_wp2
        go_ret3
        exact .inr ⟨HF.out, B1, B2, rfl, HM.out ▸ HP.out⟩
    · have HM := Lib.hid (madeK_full (l := l) (k := k) (.inl (by omega)) hk60)
      go_wp2
      go_ret3
      exact .inr ⟨HF.out, B1, B2, rfl, HM.out ▸ HP.out⟩
end Go.Hg

namespace Go.Hg
open Go.RowKit Go.Proofs

theorem wf64 {n : Int} (h1 : -9223372036854775808 ≤ n) (h2 : n ≤ 9223372036854775807) : (Lit.int .i64 n).wf = true := by
  simp only [Lit.wf, Bool.and_eq_true, decide_eq_true_eq]
  exact ⟨h1, h2⟩
theorem ends64 {G : PGraph} (hg : goodG G = true) : ∀ e ∈ G.edges, (Lit.int .i64 e.to_).wf = true := by
  obtain ⟨hi, hx⟩ := goodG_iff.1 hg
  intro e he
  have h1 := hasN_true.1 (hx.edges e he).2.2.1
  obtain ⟨n, hn, h⟩ := h1
  have h2 := hi.nodesB n hn
  have h3 := hi.next1
  rw [h] at h2
  exact wf64 (by omega) (by omega)
theorem ends64f {G : PGraph} (hg : goodG G = true) : ∀ e ∈ G.edges, (Lit.int .i64 e.from_).wf = true := by
  obtain ⟨hi, hx⟩ := goodG_iff.1 hg
  intro e he
  have h1 := hasN_true.1 (hx.edges e he).2.1
  obtain ⟨n, hn, h⟩ := h1
  have h2 := hi.nodesB n hn
  have h3 := hi.next1
  rw [h] at h2
  exact wf64 (by omega) (by omega)
theorem tmod60 (k : Int) : -60 < k.tmod 60 ∧ k.tmod 60 < 60 := by
  refine ⟨?_, Int.tmod_lt_of_pos _ (by decide)⟩
  have h := Int.tmod_lt_of_pos (-k) (b := 60) (by decide)
  rw [Int.neg_tmod] at h
  omega
set_option maxHeartbeats 1000000 in
theorem keepMod60 (k : Int) (w : World) : Calls Tryz.prog 47 #[.int .i64 k, .int .i64 60] w fun e w' => (∃ m : Nat, m < 60 ∧ e = .returned (.int .i64 m)) ∧ w = w' := by
  obtain ⟨h1, h2⟩ := tmod60 k
  have h3 : IntKind.i64.wrap (k.tmod 60 + 60) = k.tmod 60 + 60 := by rw [IntKind.wrap_i64]; omega
  have HM := Lib.hid (show 0 ≤ (k.tmod 60 + 60) % 60 ∧ (k.tmod 60 + 60) % 60 < 60 by omega)
  go_enter Tryz.func47, Tryz.ntmps47
  go_wp2
  go_ret
  refine ⟨⟨((k.tmod 60 + 60) % 60).toNat, by have := HM.out; omega, ?_⟩, rfl⟩
  rw [Int.toNat_of_nonneg HM.out.1]
  rfl

theorem infoOp : (Tryz.prog.info? 44).map (fun i => (i.zero, i.size, i.bytes)) = some (some (.agg #[.int .i64 0, .int .i64 0, .string ByteArray.empty, .int .i64 0, .int .i64 0, .string ByteArray.empty, .int .i64 0, .int .i64 0, .string ByteArray.empty, .bool false]), 10, 104) := by kernel_rfl
theorem oneOps (l : List POp) : ∀ u ∈ (l.map POp.cells).flatten, u.oneCell' = true := by
  intro u hu
  obtain ⟨r, hr, hur⟩ := List.mem_flatten.1 hu
  obtain ⟨o, -, rfl⟩ := List.mem_map.1 hr
  simp only [POp.cells, List.mem_cons, List.not_mem_nil, or_false] at hur
  rcases hur with rfl | rfl | rfl | rfl | rfl | rfl | rfl | rfl | rfl | rfl <;> rfl
theorem opsOwn {w : World} {v : Value} {l : List POp} {ob : Option Nat} (h : OwnS w 44 10 v l.length (l.map POp.cells).flatten ob) : OpsR (fun _ => True) w v l := by
  have h2 : OwnL w 44 10 (fun (o : POp) r => r = o.cells) v l ob := ⟨l.map POp.cells, by simp, fun k x r hx hr => by
    rw [List.getElem?_map, hx] at hr
    simp only [Option.map_some, Option.some.injEq] at hr
    subst hr
    exact ⟨rfl, rfl⟩, h⟩
  exact h2.toSl (fun _ _ => trivial)
/-- what Made tells, opened -/
def MadeP (w : World) (e : Ending) (w' : World) : Prop :=
  (e = .returned (.tuple #[.pointer none, .pointer none, .bool false]) ∧ Grow w w') ∨
  ∃ (B1 B2 : Nat) (S1 S2 : Nat → Prop) (G : PGraph), e = .returned (.tuple #[.pointer (some ⟨B1, 0, none⟩), .pointer (some ⟨B2, 0, none⟩), .bool true]) ∧ goodG G = true ∧ GInv G ∧ GraphOk 120 S1 w' B1 G ∧ GraphOk 55 S2 w' B2 G ∧ Grow w w'
theorem lawMadeP (S : Nat → Prop) (v : Value) (l : List POp) (w : World) (hl : OpsR S w v l) : Calls Tryz.prog 12 #[v] w (MadeP w) :=
  (lawMade S v l w hl).mono fun e w' h => by
    rcases h with ⟨-, h1, h2⟩ | ⟨-, B1, B2, h1, h2⟩
    · exact .inl ⟨h1, h2⟩
    · obtain ⟨S1, S2, k1, k2, -, -, -, k6⟩ := h2
      exact .inr ⟨B1, B2, S1, S2, madeG l, h1, madeK_good _ _, madeK_inv _ _, k1, k2, k6⟩
end Go.Hg

namespace Go.Hg
open Go.RowKit Go.ChangeShapes

section
variable {H : Type} {enc : TypeId × Value → H} {P : Program} {W W' : World}
theorem sameAt_grow (hg : Grow W W') {p : MemPlace} (hp : p.block < W.heap.size) : W.sameAt W' p := Below.same hg hp
theorem trodAll_grow {base : Nat} {sp : Nat → Bool} {hd : Bool} (hg : Grow W W') : ∀ {ts : List TypeId} {vs : List Value} {ds : List (DataW H)} {ps : List MemPlace}, DataW.TrodAll enc P W base sp hd ts vs ds ps → DataW.TrodAll enc P W' base sp hd ts vs ds ps
  | [], [], [], _, h => h
  | _ :: _, _ :: _, _ :: _, _, ⟨p, q, ⟨n, h1⟩, h2, e⟩ => ⟨p, q, ⟨n, DataW.trod_carry n _ _ _ h1 (fun x hx => sameAt_grow hg (DataW.trod_lt n _ _ _ h1 x hx))⟩, trodAll_grow hg h2, e⟩
/-- The row's closing: the call returned true; nothing that was there has turned. -/
theorem lawPost {f : Func} {s : ChangeSpec} {apart fresh handsOn again : Bool} {args : Array Value} {ds gs : List (DataW H)} {before : List MemPlace} {t : TypeId}
    (K : Kids P (· < P.types.size)) (hz : ∀ t e, t < P.types.size → P.underlying t = some (.slice e) → 0 < P.cellsOf e) (hts : ∀ t ∈ f.params.toList, t < P.types.size)
    (hW : DataW.Whole enc P f.params.toList s.vars apart W args.toList ds gs before) (hv : s.vars = []) (hres : (s.fn H (ds ++ gs)).results = [.lit (.bool true)]) (hargs : (s.fn H (ds ++ gs)).args = ds) (hvars : (s.fn H (ds ++ gs)).vars = [])
    (hrt : f.resultTypes = #[t]) (ht : P.underlying t = some .bool) (hg : Grow W W') : s.post enc P f apart fresh handsOn again W args (.bool true) W' := by
  have hlt := hW.lt
  have hold : ∀ p ∈ before, (fun b => decide (b < W.heap.size)) p.block = true := fun p hp => by simpa using hlt p hp
  have hW2 := hW
  obtain ⟨p, q, h1, h2, e, hfz, hnd⟩ := hW2
  rw [hv] at h2
  obtain ⟨rfl, rfl⟩ : gs = [] ∧ q = [] := by
    cases gs with
    | nil => exact ⟨rfl, h2⟩
    | cons => exact h2.elim
  rw [List.append_nil] at e
  subst e
  have hA : ∀ sp : Nat → Bool, (∀ x ∈ before, sp x.block = true) → DataW.TrodAll enc P W' 0 sp true f.params.toList args.toList (s.fn H (ds ++ [])).args before := fun sp hsp => by
    rw [hargs]
    exact (trodAll_grow hg h1).respare K hz hts hsp
  have hR : ∀ (b : Nat) (sp : Nat → Bool) (hd : Bool), DataW.TrodAll enc P W' b sp hd f.resultTypes.toList ((Value.bool true).resultList f.resultTypes.size) (s.fn H (ds ++ [])).results [] := fun b sp hd => by
    rw [hres, hrt]
    exact ⟨[], [], shut_bool ht true, rfl, rfl⟩
  have hV : ∀ sp : Nat → Bool, DataW.TrodVars enc P W' sp s.vars (s.fn H (ds ++ [])).vars [] := fun sp => by rw [hv, hvars]; rfl
  refine ⟨ds, [], before, [], before, [], hW, hR _ _ _, hA _ hold, hV _, World.keptBut_mono (fun p hp => ⟨hp, ?_⟩) (Below.frame hg (· ∈ before)), fun _ => ?_⟩
  · exact Or.inr (Or.inl hp)
  · refine ⟨ok_one hrt rfl (okWide_bool_mk ht true), _, _, ([] ++ before) ++ [], ⟨[] ++ before, [], trodAll_append (hA _ (fun _ _ => rfl)) (hR _ _ _), hV _, rfl, ?_, ?_⟩, ?_⟩
    · intro b off hp
      have hp' : MemPlace.cell b off ∈ before := by simpa using hp
      rw [Below.frozen hg (p := ⟨b, off, none⟩) (hlt _ hp')]
      exact hfz b off hp'
    · intro ha
      simpa using hnd ha
    · intro p hp _
      simpa using hp
end
end Go.Hg

namespace Go.Hg
open Go.RowKit Go.ChangeShapes Go.WideShapes Go.Deep Go.Proofs

theorem cellsOp : Tryz.prog.cellsOf 44 = 10 := by kernel_rfl
theorem cellsValue : Tryz.prog.cellsOf 42 = 3 := by kernel_rfl
theorem cellsI : Tryz.prog.cellsOf 3 = 1 := by kernel_rfl
theorem cellsI64 : Tryz.prog.cellsOf 2 = 1 := by kernel_rfl
theorem cellsStr : Tryz.prog.cellsOf 9 = 1 := by kernel_rfl
theorem cellsB : Tryz.prog.cellsOf 4 = 1 := by kernel_rfl

section
variable {H : Type} {enc : TypeId × Value → H} {W : World} {base : Nat} {sp : Nat → Bool} {held : Bool}
theorem list3 {α : Type} {l : List α} (h : l.length = 3) : ∃ a b c, l = [a, b, c] := by
  match l, h with
  | [a, b, c], _ => exact ⟨a, b, c, rfl⟩
theorem list10 {α : Type} {l : List α} (h : l.length = 10) : ∃ a b c d e f g i j k, l = [a, b, c, d, e, f, g, i, j, k] := by
  match l, h with
  | [a, b, c, d, e, f, g, i, j, k], _ => exact ⟨a, b, c, d, e, f, g, i, j, k, rfl⟩
theorem field_at {t : TypeId} {fs : Array Field} {n : Nat} {cs : List Value} {xs : List (DataW H × List MemPlace)} (hsz : xs.length = fs.size)
    (hf : ∀ (i : Nat) (f : Field), fs[i]? = some f → DataW.trod enc Tryz.prog W base sp held n f.type ((cs.drop f.offset).take (Tryz.prog.cellsOf f.type)) = xs[i]?) (i : Nat) {f : Field} (hi : fs[i]? = some f) (ht : f.type = t) {c o : Nat} (hc : Tryz.prog.cellsOf t = c) (ho : f.offset = o) :
    ∃ y, DataW.trod enc Tryz.prog W base sp held n t ((cs.drop o).take c) = some y := by
  have h := hf i f hi
  have hlt : i < xs.length := by rw [hsz]; exact (Array.getElem?_eq_some_iff.1 hi).1
  rw [List.getElem?_eq_getElem hlt, ht, hc, ho] at h
  exact ⟨_, h⟩
theorem openValue {n : Nat} {cs : List Value} {x : DataW H × List MemPlace} (h : DataW.trod enc Tryz.prog W base sp held n 42 cs = some x) : ∃ v : PVal, cs = [.int .i64 v.kind, .int .i64 v.n, .string v.s] := by
  obtain ⟨xs, m, -, -, hl, hsz, hf⟩ := DataW.trod_struct Tryz.underlying42 h
  rw [cellsValue] at hl
  obtain ⟨a, b, c, rfl⟩ := list3 hl
  obtain ⟨y0, h0⟩ := field_at hsz hf 0 rfl rfl cellsI rfl
  obtain ⟨y1, h1⟩ := field_at hsz hf 1 rfl rfl cellsI64 rfl
  obtain ⟨y2, h2⟩ := field_at hsz hf 2 rfl rfl cellsStr rfl
  obtain ⟨k, e0, -⟩ := DataW.trod_int Tryz.underlying3 h0
  obtain ⟨j, e1, -⟩ := DataW.trod_int Tryz.underlying2 h1
  obtain ⟨s, e2, -⟩ := DataW.trod_string Tryz.underlying9 h2
  simp at e0 e1 e2
  exact ⟨⟨k, j, s⟩, by rw [e0, e1, e2]⟩
theorem openOp {n : Nat} {cs : List Value} {x : DataW H × List MemPlace} (h : DataW.trod enc Tryz.prog W base sp held n 44 cs = some x) : ∃ o : POp, cs = o.cells := by
  obtain ⟨xs, m, -, -, hl, hsz, hf⟩ := DataW.trod_struct Tryz.underlying44 h
  rw [cellsOp] at hl
  obtain ⟨c0, c1, c2, c3, c4, c5, c6, c7, c8, c9, rfl⟩ := list10 hl
  obtain ⟨y0, h0⟩ := field_at hsz hf 0 rfl rfl cellsI rfl
  obtain ⟨y1, h1⟩ := field_at hsz hf 1 rfl rfl cellsI64 rfl
  obtain ⟨y2, h2⟩ := field_at hsz hf 2 rfl rfl cellsStr rfl
  obtain ⟨y3, h3⟩ := field_at hsz hf 3 rfl rfl cellsI64 rfl
  obtain ⟨y4, h4⟩ := field_at hsz hf 4 rfl rfl cellsI64 rfl
  obtain ⟨y5, h5⟩ := field_at hsz hf 5 rfl rfl cellsStr rfl
  obtain ⟨y6, h6⟩ := field_at hsz hf 6 rfl rfl cellsValue rfl
  obtain ⟨y7, h7⟩ := field_at hsz hf 7 rfl rfl cellsB rfl
  obtain ⟨k, e0, -⟩ := DataW.trod_int Tryz.underlying3 h0
  obtain ⟨id, e1, -⟩ := DataW.trod_int Tryz.underlying2 h1
  obtain ⟨ty, e2, -⟩ := DataW.trod_string Tryz.underlying9 h2
  obtain ⟨fr, e3, -⟩ := DataW.trod_int Tryz.underlying2 h3
  obtain ⟨tw, e4, -⟩ := DataW.trod_int Tryz.underlying2 h4
  obtain ⟨nm, e5, -⟩ := DataW.trod_string Tryz.underlying9 h5
  obtain ⟨v, e6⟩ := openValue h6
  obtain ⟨cc, e7, -⟩ := DataW.trod_bool Tryz.underlying4 h7
  simp at e0 e1 e2 e3 e4 e5 e6 e7
  obtain ⟨e6, e61, e62⟩ := e6
  exact ⟨⟨k, id, ty, fr, tw, nm, v, cc⟩, by rw [e0, e1, e2, e3, e4, e5, e6, e61, e62, e7]; rfl⟩

theorem cells?_at {b : Nat} {a : Addr} {n : Nat} {cs : List Value} (h : W.cells? b a n = some cs) : cs.length = n ∧ ∀ (j : Nat) c, cs[j]? = some c → W.cell? (a.add j) = some c := by
  unfold World.cells? at h
  split at h
  · have hl := mapM_some_length h
    simp at hl
    refine ⟨hl, fun j c hj => ?_⟩
    have hlt : j < n := by rw [← hl]; exact (List.getElem?_eq_some_iff.1 hj).1
    have := mapM_some_get h j j (by rw [List.getElem?_range hlt])
    rw [this, hj]
  · cases h
set_option maxRecDepth 100000 in
theorem openOps {v : Value} {d : DataW H} {ps : List MemPlace} {r : Reach} {b0 : Nat} (hval : Value.okWide Tryz.prog W r b0 22 v) (h : DataW.Trod enc Tryz.prog W base sp held 22 v d ps) : ∃ l : List POp, OpsR (fun _ => True) W v l := by
  obtain ⟨a0, len0, cap0, rfl⟩ := okWide_slice Tryz.underlying22 hval
  obtain ⟨n, hn⟩ := h
  rcases open_slice Tryz.underlying22 hn with ⟨hc, -⟩ | ⟨a, len, cap, m, n, D, Pl, hc, -, hlc, hcm, hm, -, hel⟩
  · simp [Value.cells] at hc
    obtain ⟨rfl, rfl, rfl⟩ := hc
    exact ⟨[], (OwnL.nil W 0 10 (fun o r => r = POp.cells o)).toSl (by simp)⟩
  · simp [Value.cells] at hc
    obtain ⟨rfl, rfl, rfl⟩ := hc
    rw [cellsOp] at hel
    have hlm : len0 ≤ m := by rw [hm]; split <;> omega
    have key : ∀ i, i < len0 → ∃ o : POp, ∀ (j : Nat) c, o.cells[j]? = some c → W.cell? ((a.add (i * 10)).add j) = some c := by
      intro i hi
      obtain ⟨cs', h1, h2⟩ := hel i (by omega)
      obtain ⟨o, rfl⟩ := openOp h2
      exact ⟨o, (cells?_at h1).2⟩
    obtain ⟨l, hl, hcells⟩ : ∃ l : List POp, l.length = len0 ∧ ∀ i o, l[i]? = some o → ∀ (j : Nat) c, o.cells[j]? = some c → W.cell? ((a.add (i * 10)).add j) = some c := by
      have build : ∀ n, n ≤ len0 → ∃ l : List POp, l.length = n ∧ ∀ i o, l[i]? = some o → ∀ (j : Nat) c, o.cells[j]? = some c → W.cell? ((a.add (i * 10)).add j) = some c := by
        intro n
        induction n with
        | zero => intro _; exact ⟨[], rfl, by simp⟩
        | succ n ih =>
          intro hn
          obtain ⟨l, hl, hc⟩ := ih (by omega)
          obtain ⟨o, ho⟩ := key n (by omega)
          refine ⟨l ++ [o], by simp [hl], fun i o' hi => ?_⟩
          by_cases hin : i < n
          · rw [List.getElem?_append_left (by omega)] at hi
            exact hc i o' hi
          · rw [List.getElem?_append_right (by omega), hl] at hi
            have e : i - n = 0 := by have := (List.getElem?_eq_some_iff.1 hi).1; simp at this; omega
            rw [e] at hi
            simp at hi
            subst hi
            obtain rfl : i = n := by omega
            exact ho
      exact build len0 (Nat.le_refl _)
    subst hl
    refine ⟨l, some a, cap0, l.map POp.cells, rfl, hlc, hcm, by simp, fun k x r hx hr => ?_, fun h0 => ?_⟩
    · rw [List.getElem?_map, hx] at hr
      simpa using hr.symm
    · have hc0 := hcells 0 l[0] (List.getElem?_eq_getElem h0) 0 _ rfl
      rw [Nat.zero_mul] at hc0
      have ha : a = ⟨a.block, a.off, none⟩ := by
        obtain ⟨b, o, s⟩ := a
        cases s with
        | none => rfl
        | some s =>
          exfalso
          simp only [Addr.add, if_pos] at hc0
          unfold World.cell? at hc0
          simp at hc0
          split at hc0 <;> cases hc0
      have hblt : a.block < W.heap.size := by
        have := World.block_lt_of_cell? W _ hc0
        simpa [Addr.add] using this
      refine ⟨a.block, a.off, by rw [← ha], trivial, hblt, fun k r j c hr hj => ?_⟩
      rw [List.getElem?_map] at hr
      obtain ⟨o, ho, rfl⟩ := Option.map_eq_some_iff.1 hr
      have := hcells k o ho j c hj
      rw [ha, Addr.add_lit, Addr.add_lit] at this
      exact this
end
end Go.Hg

namespace Go.Hg
open Go.RowKit Go.ChangeShapes Go.WideShapes Go.Deep Go.Proofs

section
variable {H : Type} {enc : TypeId × Value → H} {W : World} {base : Nat} {sp : Nat → Bool} {held : Bool}
set_option maxRecDepth 100000 in
theorem openOp1 {v : Value} {d : DataW H} {ps : List MemPlace} {r : Reach} {b0 : Nat} (hval : Value.okWide Tryz.prog W r b0 44 v) (h : DataW.Trod enc Tryz.prog W base sp held 44 v d ps) : ∃ o : POp, v = o.args := by
  obtain ⟨cs, rfl, -⟩ := okWide_struct Tryz.underlying44 hval
  obtain ⟨n, hn⟩ := h
  obtain ⟨o, ho⟩ := openOp hn
  refine ⟨o, ?_⟩
  have e : cs.toList = o.cells := ho
  have e2 : cs = o.cells.toArray := by rw [← e]
  rw [e2]
  rfl
set_option maxRecDepth 100000 in
theorem openU8 {v : Value} {d : DataW H} {ps : List MemPlace} {r : Reach} {b0 : Nat} (hval : Value.okWide Tryz.prog W r b0 5 v) (h : DataW.Trod enc Tryz.prog W base sp held 5 v d ps) : ∃ k : Nat, k < 256 ∧ v = .int .u8 k := by
  obtain ⟨m, rfl⟩ := okWide_int Tryz.underlying5 hval
  obtain ⟨n, hn⟩ := h
  obtain ⟨k, e, -, hw⟩ := DataW.trod_int Tryz.underlying5 hn
  have hb := bounds_u8 hw
  have e2 : m = k := by
    have e' : [Value.int .u8 m] = [Value.int .u8 k] := e
    simpa using e'
  subst e2
  exact ⟨m.toNat, by omega, by rw [Int.toNat_of_nonneg hb.1]⟩
end
end Go.Hg

namespace Go.Hg
open Go.RowKit Go.ChangeShapes Go.WideShapes Go.Deep Go.Proofs

theorem cellsProp : Tryz.prog.cellsOf 123 = 4 := by kernel_rfl
theorem cellsNode : Tryz.prog.cellsOf 94 = 3 := by kernel_rfl
theorem cellsEdge : Tryz.prog.cellsOf 98 = 5 := by kernel_rfl
theorem cellsPropS : Tryz.prog.cellsOf 92 = 1 := by kernel_rfl
theorem cellsNodeS : Tryz.prog.cellsOf 37 = 1 := by kernel_rfl
theorem cellsEdgeS : Tryz.prog.cellsOf 39 = 1 := by kernel_rfl
theorem cellsStrS : Tryz.prog.cellsOf 48 = 1 := by kernel_rfl
theorem cellsRule : Tryz.prog.cellsOf 24 = 8 := by kernel_rfl
theorem cellsRuleS : Tryz.prog.cellsOf 49 = 1 := by kernel_rfl
theorem cellsIndex : Tryz.prog.cellsOf 134 = 2 := by kernel_rfl
theorem cellsIndexS : Tryz.prog.cellsOf 50 = 1 := by kernel_rfl
theorem cellsCat : Tryz.prog.cellsOf 52 = 5 := by kernel_rfl
theorem list1 {α : Type} {l : List α} (h : l.length = 1) : ∃ a, l = [a] := by
  match l, h with
  | [a], _ => exact ⟨a, rfl⟩
theorem list2 {α : Type} {l : List α} (h : l.length = 2) : ∃ a b, l = [a, b] := by
  match l, h with
  | [a, b], _ => exact ⟨a, b, rfl⟩
theorem list4 {α : Type} {l : List α} (h : l.length = 4) : ∃ a b c d, l = [a, b, c, d] := by
  match l, h with
  | [a, b, c, d], _ => exact ⟨a, b, c, d, rfl⟩
theorem list5 {α : Type} {l : List α} (h : l.length = 5) : ∃ a b c d e, l = [a, b, c, d, e] := by
  match l, h with
  | [a, b, c, d, e], _ => exact ⟨a, b, c, d, e, rfl⟩
theorem list8 {α : Type} {l : List α} (h : l.length = 8) : ∃ a b c d e f g i, l = [a, b, c, d, e, f, g, i] := by
  match l, h with
  | [a, b, c, d, e, f, g, i], _ => exact ⟨a, b, c, d, e, f, g, i, rfl⟩

section
variable {H : Type} {enc : TypeId × Value → H} {W : World} {base : Nat} {sp : Nat → Bool} {held : Bool}
/-- a slice whose elements are opened by open1 -/
theorem openListC {α : Type} {tS tE : TypeId} {sz : Nat} (R : α → List Value → Prop) (ht : Tryz.prog.underlying tS = some (.slice tE)) (hcz : Tryz.prog.cellsOf tE = sz) (hsz : 0 < sz)
    (open1 : ∀ (n : Nat) (cs : List Value) x, DataW.trod enc Tryz.prog W base sp held n tE cs = some x → ∃ o, R o cs) {n : Nat} {cs : List Value} {x : DataW H × List MemPlace} (h : DataW.trod enc Tryz.prog W base sp held n tS cs = some x) :
    ∃ v, ∃ l : List α, cs = [v] ∧ SlR (fun _ => True) W sz R v l := by
  rcases open_slice ht h with ⟨hc, -⟩ | ⟨a, len, cap, m, n, D, Pl, hc, -, hlc, hcm, hm, -, hel⟩
  · exact ⟨_, [], hc, (OwnL.nil W tE sz R).toSl (by simp)⟩
  · rw [hcz] at hel
    have hlm : len ≤ m := by rw [hm]; split <;> omega
    have key : ∀ i, i < len → ∃ (o : α) (r : List Value), R o r ∧ r.length = sz ∧ ∀ (j : Nat) c, r[j]? = some c → W.cell? ((a.add (i * sz)).add j) = some c := by
      intro i hi
      obtain ⟨cs', h1, h2⟩ := hel i (by omega)
      obtain ⟨o, ho⟩ := open1 _ _ _ h2
      exact ⟨o, cs', ho, (cells?_at h1).1, (cells?_at h1).2⟩
    obtain ⟨l, hl, hcells⟩ : ∃ l : List (α × List Value), l.length = len ∧ ∀ i p, l[i]? = some p → R p.1 p.2 ∧ p.2.length = sz ∧ ∀ (j : Nat) c, p.2[j]? = some c → W.cell? ((a.add (i * sz)).add j) = some c := by
      have build : ∀ n, n ≤ len → ∃ l : List (α × List Value), l.length = n ∧ ∀ i p, l[i]? = some p → R p.1 p.2 ∧ p.2.length = sz ∧ ∀ (j : Nat) c, p.2[j]? = some c → W.cell? ((a.add (i * sz)).add j) = some c := by
        intro n
        induction n with
        | zero => intro _; exact ⟨[], rfl, by simp⟩
        | succ n ih =>
          intro hn
          obtain ⟨l, hl, hc⟩ := ih (by omega)
          obtain ⟨o, r, ho⟩ := key n (by omega)
          refine ⟨l ++ [(o, r)], by simp [hl], fun i o' hi => ?_⟩
          by_cases hin : i < n
          · rw [List.getElem?_append_left (by omega)] at hi
            exact hc i o' hi
          · rw [List.getElem?_append_right (by omega), hl] at hi
            have e : i - n = 0 := by have := (List.getElem?_eq_some_iff.1 hi).1; simp at this; omega
            rw [e] at hi
            simp at hi
            subst hi
            obtain rfl : i = n := by omega
            exact ho
      exact build len (Nat.le_refl _)
    subst hl
    refine ⟨_, l.map (·.1), hc, some a, cap, l.map (·.2), by simp, by simpa using hlc, hcm, by simp, fun k x r hx hr => ?_, fun h0 => ?_⟩
    · rw [List.getElem?_map] at hx hr
      cases hk : l[k]? with
      | none => rw [hk] at hx; simp at hx
      | some p =>
        rw [hk] at hx hr
        simp only [Option.map_some, Option.some.injEq] at hx hr
        subst hx; subst hr
        exact (hcells k p hk).1
    · have h0' : 0 < l.length := by simpa using h0
      obtain ⟨-, hz, hc0⟩ := hcells 0 l[0] (List.getElem?_eq_getElem h0')
      have hc0 := hc0 0 _ (List.getElem?_eq_getElem (by omega))
      rw [Nat.zero_mul] at hc0
      have ha : a = ⟨a.block, a.off, none⟩ := by
        obtain ⟨b, o, s⟩ := a
        cases s with
        | none => rfl
        | some s =>
          exfalso
          simp only [Addr.add, if_pos] at hc0
          unfold World.cell? at hc0
          simp at hc0
          split at hc0 <;> cases hc0
      have hblt : a.block < W.heap.size := by
        have := World.block_lt_of_cell? W _ hc0
        simpa [Addr.add] using this
      refine ⟨a.block, a.off, by rw [← ha], trivial, hblt, fun k r j c hr hj => ?_⟩
      rw [List.getElem?_map] at hr
      obtain ⟨p, hp, rfl⟩ := Option.map_eq_some_iff.1 hr
      have := (hcells k p hp).2.2 j c hj
      rw [ha, Addr.add_lit, Addr.add_lit] at this
      exact this
theorem openProp {n : Nat} {cs : List Value} {x : DataW H × List MemPlace} (h : DataW.trod enc Tryz.prog W base sp held n 123 cs = some x) : ∃ o : PProp, RProp o cs := by
  obtain ⟨xs, m, -, -, hl, hsz, hf⟩ := DataW.trod_struct Tryz.underlying123 h
  rw [cellsProp] at hl
  obtain ⟨c0, c1, c2, c3, rfl⟩ := list4 hl
  obtain ⟨y0, h0⟩ := field_at hsz hf 0 rfl rfl cellsStr rfl
  obtain ⟨y1, h1⟩ := field_at hsz hf 1 rfl rfl cellsValue rfl
  obtain ⟨s, e0, -⟩ := DataW.trod_string Tryz.underlying9 h0
  obtain ⟨v, e1⟩ := openValue h1
  simp at e0 e1
  obtain ⟨e1, e2, e3⟩ := e1
  exact ⟨⟨s, v⟩, by unfold RProp; rw [e0, e1, e2, e3]⟩
theorem openProps {n : Nat} {cs : List Value} {x : DataW H × List MemPlace} (h : DataW.trod enc Tryz.prog W base sp held n 92 cs = some x) : ∃ v, ∃ l : List PProp, cs = [v] ∧ PropsR (fun _ => True) W v l :=
  openListC RProp Tryz.underlying92 cellsProp (by decide) (fun _ _ _ h => openProp h) h
theorem openNode {n : Nat} {cs : List Value} {x : DataW H × List MemPlace} (h : DataW.trod enc Tryz.prog W base sp held n 94 cs = some x) : ∃ o : PNode, RNode (fun _ => True) W o cs := by
  obtain ⟨xs, m, -, -, hl, hsz, hf⟩ := DataW.trod_struct Tryz.underlying94 h
  rw [cellsNode] at hl
  obtain ⟨c0, c1, c2, rfl⟩ := list3 hl
  obtain ⟨y0, h0⟩ := field_at hsz hf 0 rfl rfl cellsI64 rfl
  obtain ⟨y1, h1⟩ := field_at hsz hf 1 rfl rfl cellsStr rfl
  obtain ⟨y2, h2⟩ := field_at hsz hf 2 rfl rfl cellsPropS rfl
  obtain ⟨i, e0, -⟩ := DataW.trod_int Tryz.underlying2 h0
  obtain ⟨s, e1, -⟩ := DataW.trod_string Tryz.underlying9 h1
  obtain ⟨pv, ps, e2, hp⟩ := openProps h2
  simp at e0 e1 e2
  exact ⟨⟨i, s, ps⟩, pv, by rw [e0, e1, e2], hp⟩
theorem openEdge {n : Nat} {cs : List Value} {x : DataW H × List MemPlace} (h : DataW.trod enc Tryz.prog W base sp held n 98 cs = some x) : ∃ o : PEdge, REdge (fun _ => True) W o cs := by
  obtain ⟨xs, m, -, -, hl, hsz, hf⟩ := DataW.trod_struct Tryz.underlying98 h
  rw [cellsEdge] at hl
  obtain ⟨c0, c1, c2, c3, c4, rfl⟩ := list5 hl
  obtain ⟨y0, h0⟩ := field_at hsz hf 0 rfl rfl cellsI64 rfl
  obtain ⟨y1, h1⟩ := field_at hsz hf 1 rfl rfl cellsStr rfl
  obtain ⟨y2, h2⟩ := field_at hsz hf 2 rfl rfl cellsI64 rfl
  obtain ⟨y3, h3⟩ := field_at hsz hf 3 rfl rfl cellsI64 rfl
  obtain ⟨y4, h4⟩ := field_at hsz hf 4 rfl rfl cellsPropS rfl
  obtain ⟨i, e0, -⟩ := DataW.trod_int Tryz.underlying2 h0
  obtain ⟨s, e1, -⟩ := DataW.trod_string Tryz.underlying9 h1
  obtain ⟨f, e2, -⟩ := DataW.trod_int Tryz.underlying2 h2
  obtain ⟨t, e3, -⟩ := DataW.trod_int Tryz.underlying2 h3
  obtain ⟨pv, ps, e4, hp⟩ := openProps h4
  simp at e0 e1 e2 e3 e4
  exact ⟨⟨i, s, f, t, ps⟩, pv, by rw [e0, e1, e2, e3, e4], hp⟩
theorem openNodes {n : Nat} {cs : List Value} {x : DataW H × List MemPlace} (h : DataW.trod enc Tryz.prog W base sp held n 37 cs = some x) : ∃ v, ∃ l : List PNode, cs = [v] ∧ NodesR (fun _ => True) W v l :=
  openListC _ Tryz.underlying37 cellsNode (by decide) (fun _ _ _ h => openNode h) h
theorem openEdges {n : Nat} {cs : List Value} {x : DataW H × List MemPlace} (h : DataW.trod enc Tryz.prog W base sp held n 39 cs = some x) : ∃ v, ∃ l : List PEdge, cs = [v] ∧ EdgesR (fun _ => True) W v l :=
  openListC _ Tryz.underlying39 cellsEdge (by decide) (fun _ _ _ h => openEdge h) h
theorem openStrs {n : Nat} {cs : List Value} {x : DataW H × List MemPlace} (h : DataW.trod enc Tryz.prog W base sp held n 48 cs = some x) : ∃ v, ∃ l : List ByteArray, cs = [v] ∧ StrsR (fun _ => True) W v l :=
  openListC RStr Tryz.underlying48 cellsStr (by decide) (fun _ _ _ h => by
    obtain ⟨s, e, -⟩ := DataW.trod_string Tryz.underlying9 h
    exact ⟨s, e⟩) h
theorem openRule {n : Nat} {cs : List Value} {x : DataW H × List MemPlace} (h : DataW.trod enc Tryz.prog W base sp held n 24 cs = some x) : ∃ o : PRule, RRule o cs := by
  obtain ⟨xs, m, -, -, hl, hsz, hf⟩ := DataW.trod_struct Tryz.underlying24 h
  rw [cellsRule] at hl
  obtain ⟨c0, c1, c2, c3, c4, c5, c6, c7, rfl⟩ := list8 hl
  obtain ⟨y0, h0⟩ := field_at hsz hf 0 rfl rfl cellsI rfl
  obtain ⟨y1, h1⟩ := field_at hsz hf 1 rfl rfl cellsI rfl
  obtain ⟨y2, h2⟩ := field_at hsz hf 2 rfl rfl cellsStr rfl
  obtain ⟨y3, h3⟩ := field_at hsz hf 3 rfl rfl cellsStr rfl
  obtain ⟨y4, h4⟩ := field_at hsz hf 4 rfl rfl cellsStr rfl
  obtain ⟨y5, h5⟩ := field_at hsz hf 5 rfl rfl cellsStr rfl
  obtain ⟨y6, h6⟩ := field_at hsz hf 6 rfl rfl cellsI rfl
  obtain ⟨y7, h7⟩ := field_at hsz hf 7 rfl rfl cellsI rfl
  obtain ⟨a0, e0, -⟩ := DataW.trod_int Tryz.underlying3 h0
  obtain ⟨a1, e1, -⟩ := DataW.trod_int Tryz.underlying3 h1
  obtain ⟨a2, e2, -⟩ := DataW.trod_string Tryz.underlying9 h2
  obtain ⟨a3, e3, -⟩ := DataW.trod_string Tryz.underlying9 h3
  obtain ⟨a4, e4, -⟩ := DataW.trod_string Tryz.underlying9 h4
  obtain ⟨a5, e5, -⟩ := DataW.trod_string Tryz.underlying9 h5
  obtain ⟨a6, e6, -⟩ := DataW.trod_int Tryz.underlying3 h6
  obtain ⟨a7, e7, -⟩ := DataW.trod_int Tryz.underlying3 h7
  simp at e0 e1 e2 e3 e4 e5 e6 e7
  exact ⟨⟨a0, a1, a2, a3, a4, a5, a6, a7⟩, by unfold RRule; rw [e0, e1, e2, e3, e4, e5, e6, e7]⟩
theorem openRules {n : Nat} {cs : List Value} {x : DataW H × List MemPlace} (h : DataW.trod enc Tryz.prog W base sp held n 49 cs = some x) : ∃ v, ∃ l : List PRule, cs = [v] ∧ RulesR (fun _ => True) W v l :=
  openListC RRule Tryz.underlying49 cellsRule (by decide) (fun _ _ _ h => openRule h) h
theorem openIndex {n : Nat} {cs : List Value} {x : DataW H × List MemPlace} (h : DataW.trod enc Tryz.prog W base sp held n 134 cs = some x) : ∃ o : PIndex, RIndex o cs := by
  obtain ⟨xs, m, -, -, hl, hsz, hf⟩ := DataW.trod_struct Tryz.underlying134 h
  rw [cellsIndex] at hl
  obtain ⟨c0, c1, rfl⟩ := list2 hl
  obtain ⟨y0, h0⟩ := field_at hsz hf 0 rfl rfl cellsStr rfl
  obtain ⟨y1, h1⟩ := field_at hsz hf 1 rfl rfl cellsStr rfl
  obtain ⟨a0, e0, -⟩ := DataW.trod_string Tryz.underlying9 h0
  obtain ⟨a1, e1, -⟩ := DataW.trod_string Tryz.underlying9 h1
  simp at e0 e1
  exact ⟨⟨a0, a1⟩, by unfold RIndex; rw [e0, e1]⟩
theorem openIndexes {n : Nat} {cs : List Value} {x : DataW H × List MemPlace} (h : DataW.trod enc Tryz.prog W base sp held n 50 cs = some x) : ∃ v, ∃ l : List PIndex, cs = [v] ∧ IndexesR (fun _ => True) W v l :=
  openListC RIndex Tryz.underlying50 cellsIndex (by decide) (fun _ _ _ h => openIndex h) h
set_option maxRecDepth 100000 in
theorem openCat {v : Value} {d : DataW H} {ps : List MemPlace} {r : Reach} {b0 : Nat} (hval : Value.okWide Tryz.prog W r b0 52 v) (h : DataW.Trod enc Tryz.prog W base sp held 52 v d ps) :
    ∃ (c : PCat) (nv ev rv iv : Value), v = c.arg nv ev rv iv ∧ CatR (fun _ => True) W nv ev rv iv c := by
  obtain ⟨cs, rfl, -⟩ := okWide_struct Tryz.underlying52 hval
  obtain ⟨n, hn⟩ := h
  obtain ⟨xs, m, -, -, hl, hsz, hf⟩ := DataW.trod_struct Tryz.underlying52 hn
  rw [cellsCat] at hl
  obtain ⟨c0, c1, c2, c3, c4, hcs⟩ := list5 hl
  have e : cs.toList = [c0, c1, c2, c3, c4] := hcs
  rw [hcs] at hf
  obtain ⟨y0, h0⟩ := field_at hsz hf 0 rfl rfl cellsStrS rfl
  obtain ⟨y1, h1⟩ := field_at hsz hf 1 rfl rfl cellsStrS rfl
  obtain ⟨y2, h2⟩ := field_at hsz hf 2 rfl rfl cellsRuleS rfl
  obtain ⟨y3, h3⟩ := field_at hsz hf 3 rfl rfl cellsIndexS rfl
  obtain ⟨y4, h4⟩ := field_at hsz hf 4 rfl rfl cellsI rfl
  obtain ⟨nv, ln, e0, hn⟩ := openStrs h0
  obtain ⟨ev, le, e1, he⟩ := openStrs h1
  obtain ⟨rv, lr, e2, hr⟩ := openRules h2
  obtain ⟨iv, li, e3, hi⟩ := openIndexes h3
  obtain ⟨i, e4, -⟩ := DataW.trod_int Tryz.underlying3 h4
  simp at e0 e1 e2 e3 e4
  refine ⟨⟨ln, le, lr, li, i⟩, nv, ev, rv, iv, ?_, hn, he, hr, hi⟩
  have e5 : cs = #[c0, c1, c2, c3, c4] := by rw [← Array.toList_inj, e]
  rw [e5, e0, e1, e2, e3, e4]
end
end Go.Hg

namespace Go.Hg
open Go.RowKit Go.ChangeShapes Go.WideShapes Go.Deep Go.Proofs

/-- within int64 -/
def In64' (x : Int) : Prop := -9223372036854775808 ≤ x ∧ x ≤ 9223372036854775807
section
variable {H : Type} {enc : TypeId × Value → H} {W : World} {base : Nat} {sp : Nat → Bool} {held : Bool}
set_option maxRecDepth 100000 in
theorem openI64 {v : Value} {d : DataW H} {ps : List MemPlace} {r : Reach} {b0 : Nat} (hval : Value.okWide Tryz.prog W r b0 2 v) (h : DataW.Trod enc Tryz.prog W base sp held 2 v d ps) : ∃ x : Int, In64' x ∧ v = .int .i64 x := by
  obtain ⟨m, rfl⟩ := okWide_int Tryz.underlying2 hval
  obtain ⟨n, hn⟩ := h
  obtain ⟨k, e, -, hw⟩ := DataW.trod_int Tryz.underlying2 hn
  have hb := bounds_i64 hw
  have e2 : m = k := by
    have e' : [Value.int .i64 m] = [Value.int .i64 k] := e
    simpa using e'
  exact ⟨m, e2 ▸ hb, rfl⟩
set_option maxRecDepth 100000 in
theorem openInt {v : Value} {d : DataW H} {ps : List MemPlace} {r : Reach} {b0 : Nat} (hval : Value.okWide Tryz.prog W r b0 3 v) (h : DataW.Trod enc Tryz.prog W base sp held 3 v d ps) : ∃ x : Int, In64' x ∧ v = .int .i64 x := by
  obtain ⟨m, rfl⟩ := okWide_int Tryz.underlying3 hval
  obtain ⟨n, hn⟩ := h
  obtain ⟨k, e, -, hw⟩ := DataW.trod_int Tryz.underlying3 hn
  have hb := bounds_i64 hw
  have e2 : m = k := by
    have e' : [Value.int .i64 m] = [Value.int .i64 k] := e
    simpa using e'
  exact ⟨m, e2 ▸ hb, rfl⟩
set_option maxRecDepth 100000 in
theorem openStr {v : Value} {r : Reach} {b0 : Nat} (hval : Value.okWide Tryz.prog W r b0 9 v) : ∃ s : ByteArray, v = .string s := okWide_string Tryz.underlying9 hval
theorem okWide_arr {P : Program} {w : World} {r : Reach} {b0 : Nat} {t e : TypeId} {n : Nat} {v : Value} (ht : P.underlying t = some (.array n e)) (h : Value.okWide P w r b0 t v) : ∃ cs, v = .agg cs ∧ cs.size = P.cellsOf t := by
  simp only [Value.okWide, ht] at h
  obtain ⟨cs, h1, h2, _⟩ := h
  exact ⟨cs, h1, h2⟩
end
end Go.Hg

namespace Go.Hg
open Go.RowKit Go.ChangeShapes Go.WideShapes Go.Deep Go.Proofs
variable {H : Type} {enc : TypeId × Value → H} {W : World} {base : Nat} {sp : Nat → Bool} {held : Bool}

def WfId (r : PRule) : Prop := (Lit.int .i64 r.id).wf = true
set_option maxRecDepth 100000 in
theorem openRuleW {n : Nat} {cs : List Value} {x : DataW H × List MemPlace} (h : DataW.trod enc Tryz.prog W base sp held n 24 cs = some x) : ∃ o : PRule, RRule o cs ∧ WfId o := by
  have hh := h
  obtain ⟨o, ho⟩ := openRule h
  obtain ⟨xs, m, -, -, hl, hsz, hf⟩ := DataW.trod_struct Tryz.underlying24 hh
  rw [cellsRule] at hl
  obtain ⟨c0, c1, c2, c3, c4, c5, c6, c7, rfl⟩ := list8 hl
  obtain ⟨y0, h0⟩ := field_at hsz hf 0 rfl rfl cellsI rfl
  obtain ⟨a0, e0, -, hw⟩ := DataW.trod_int Tryz.underlying3 h0
  refine ⟨o, ho, ?_⟩
  have e1 : c0 = .int .i64 a0 := by simpa using e0
  unfold RRule at ho
  simp only [List.cons.injEq] at ho
  rw [e1] at ho
  have e2 : a0 = o.id := by have := ho.1; simpa using this
  unfold WfId
  rw [← e2]
  exact hw
theorem slWf {S : Nat → Prop} {v : Value} {l : List PRule} (h : SlR S W 8 (fun r c => RRule r c ∧ WfId r) v l) : RulesR S W v l ∧ ∀ r ∈ l, WfId r := by
  refine ⟨SlR.sub h (fun _ h => h) (fun _ _ _ h => h.1), fun r hr => ?_⟩
  obtain ⟨_, _, _, _, _, hA⟩ := SlR.open h
  obtain ⟨k, hk, e⟩ := List.getElem_of_mem hr
  obtain ⟨_, _, _, _, _, _, hR, _⟩ := hA k r (by rw [List.getElem?_eq_getElem hk, e])
  exact hR.2
set_option maxRecDepth 100000 in
theorem openRulesW {n : Nat} {cs : List Value} {x : DataW H × List MemPlace} (h : DataW.trod enc Tryz.prog W base sp held n 49 cs = some x) : ∃ v, ∃ l : List PRule, cs = [v] ∧ RulesR (fun _ => True) W v l ∧ ∀ r ∈ l, WfId r := by
  obtain ⟨v, l, h1, h2⟩ := openListC (fun r c => RRule r c ∧ WfId r) Tryz.underlying49 cellsRule (by omega) (fun _ _ _ h => openRuleW h) h
  exact ⟨v, l, h1, slWf h2⟩
set_option maxRecDepth 100000 in
theorem openRule1 {v : Value} {d : DataW H} {ps : List MemPlace} {r : Reach} {b0 : Nat} (hval : Value.okWide Tryz.prog W r b0 24 v) (h : DataW.Trod enc Tryz.prog W base sp held 24 v d ps) : ∃ o : PRule, WfId o ∧ v = o.args := by
  obtain ⟨cs, rfl, -⟩ := okWide_struct Tryz.underlying24 hval
  obtain ⟨n, hn⟩ := h
  obtain ⟨o, ho, hw⟩ := openRuleW hn
  refine ⟨o, hw, ?_⟩
  have e : cs.toList = o.cells := ho
  have e2 : cs = o.cells.toArray := by rw [← e]
  rw [e2]
set_option maxRecDepth 100000 in
theorem openRulesA {v : Value} {d : DataW H} {ps : List MemPlace} {r : Reach} {b0 : Nat} (hval : Value.okWide Tryz.prog W r b0 49 v) (h : DataW.Trod enc Tryz.prog W base sp held 49 v d ps) : ∃ l : List PRule, RulesR (fun _ => True) W v l ∧ ∀ r ∈ l, WfId r := by
  obtain ⟨a0, len0, cap0, rfl⟩ := okWide_slice Tryz.underlying49 hval
  obtain ⟨n, hn⟩ := h
  obtain ⟨v', l, h1, h2⟩ := openRulesW hn
  have e : [Value.slice a0 len0 cap0] = [v'] := h1
  simp only [List.cons.injEq, and_true] at e
  exact ⟨l, e ▸ h2⟩
set_option maxRecDepth 100000 in
theorem openCatW {v : Value} {d : DataW H} {ps : List MemPlace} {r : Reach} {b0 : Nat} (hval : Value.okWide Tryz.prog W r b0 52 v) (h : DataW.Trod enc Tryz.prog W base sp held 52 v d ps) :
    ∃ (c : PCat) (nv ev rv iv : Value), v = c.arg nv ev rv iv ∧ CatR (fun _ => True) W nv ev rv iv c ∧ ∀ r ∈ c.rules, WfId r := by
  obtain ⟨cs, rfl, -⟩ := okWide_struct Tryz.underlying52 hval
  obtain ⟨n, hn⟩ := h
  obtain ⟨xs, m, -, -, hl, hsz, hf⟩ := DataW.trod_struct Tryz.underlying52 hn
  rw [cellsCat] at hl
  obtain ⟨c0, c1, c2, c3, c4, hcs⟩ := list5 hl
  have e : cs.toList = [c0, c1, c2, c3, c4] := hcs
  rw [hcs] at hf
  obtain ⟨y0, h0⟩ := field_at hsz hf 0 rfl rfl cellsStrS rfl
  obtain ⟨y1, h1⟩ := field_at hsz hf 1 rfl rfl cellsStrS rfl
  obtain ⟨y2, h2⟩ := field_at hsz hf 2 rfl rfl cellsRuleS rfl
  obtain ⟨y3, h3⟩ := field_at hsz hf 3 rfl rfl cellsIndexS rfl
  obtain ⟨y4, h4⟩ := field_at hsz hf 4 rfl rfl cellsI rfl
  obtain ⟨nv, ln, e0, hn⟩ := openStrs h0
  obtain ⟨ev, le, e1, he⟩ := openStrs h1
  obtain ⟨rv, lr, e2, hr, hwf⟩ := openRulesW h2
  obtain ⟨iv, li, e3, hi⟩ := openIndexes h3
  obtain ⟨i, e4, -⟩ := DataW.trod_int Tryz.underlying3 h4
  simp at e0 e1 e2 e3 e4
  refine ⟨⟨ln, le, lr, li, i⟩, nv, ev, rv, iv, ?_, ⟨hn, he, hr, hi⟩, hwf⟩
  have e5 : cs = #[c0, c1, c2, c3, c4] := by rw [← Array.toList_inj, e]
  rw [e5, e0, e1, e2, e3, e4]
def rspot0 : PSpot := ⟨0, ByteArray.empty, ByteArray.empty⟩
theorem cellsSpot : Tryz.prog.cellsOf 136 = 3 := by kernel_rfl
set_option maxRecDepth 100000 in
theorem openSpot {n : Nat} {cs : List Value} {x : DataW H × List MemPlace} (h : DataW.trod enc Tryz.prog W base sp held n 136 cs = some x) : ∃ o : PSpot, RSpot o cs := by
  obtain ⟨xs, m, -, -, hl, hsz, hf⟩ := DataW.trod_struct Tryz.underlying136 h
  rw [cellsSpot] at hl
  obtain ⟨c0, c1, c2, rfl⟩ := list3 hl
  obtain ⟨y0, h0⟩ := field_at hsz hf 0 rfl rfl cellsI rfl
  obtain ⟨y1, h1⟩ := field_at hsz hf 1 rfl rfl cellsStr rfl
  obtain ⟨y2, h2⟩ := field_at hsz hf 2 rfl rfl cellsStr rfl
  obtain ⟨a0, e0, -⟩ := DataW.trod_int Tryz.underlying3 h0
  obtain ⟨a1, e1, -⟩ := DataW.trod_string Tryz.underlying9 h1
  obtain ⟨a2, e2, -⟩ := DataW.trod_string Tryz.underlying9 h2
  simp at e0 e1 e2
  exact ⟨⟨a0, a1, a2⟩, by unfold RSpot; rw [e0, e1, e2]⟩
set_option maxRecDepth 100000 in
theorem openSpotsA {v : Value} {d : DataW H} {ps : List MemPlace} {r : Reach} {b0 : Nat} (hval : Value.okWide Tryz.prog W r b0 59 v) (h : DataW.Trod enc Tryz.prog W base sp held 59 v d ps) : ∃ l : List PSpot, SpotsR (fun _ => True) W v l := by
  obtain ⟨a0, len0, cap0, rfl⟩ := okWide_slice Tryz.underlying59 hval
  obtain ⟨n, hn⟩ := h
  obtain ⟨v', l, h1, h2⟩ := openListC RSpot Tryz.underlying59 cellsSpot (by omega) (fun _ _ _ h => openSpot h) hn
  have e : [Value.slice a0 len0 cap0] = [v'] := h1
  simp only [List.cons.injEq, and_true] at e
  exact ⟨l, e ▸ h2⟩
end Go.Hg

namespace Go.Hg
open Go.RowKit Go.Proofs

theorem SlR.rdN {α : Type} {S : Nat → Prop} {w : World} {sz : Nat} {R : α → List Value → Prop} {v : Value} {l : List α} (h : SlR S w sz R v l) (hs : 0 < sz) (hR : ∀ x r, R x r → r.length = sz) :
    ∃ rows : List (List Value), rows.length = l.length ∧ (∀ (k : Nat) x r, l[k]? = some x → rows[k]? = some r → R x r ∧ r.length = sz) ∧ Rd w sz v l.length rows.flatten := by
  obtain ⟨a, cap, rows, rfl, h1, h2, h3, h4, h5⟩ := h
  have hrl : ∀ r ∈ rows, r.length = sz := by
    intro r hr
    obtain ⟨k, hk, e⟩ := List.getElem_of_mem hr
    exact hR (l[k]'(by omega)) r (h4 k _ r (List.getElem?_eq_getElem (by omega)) (by rw [List.getElem?_eq_getElem hk, e]))
  have hfl : rows.flatten.length = l.length * sz := by
    rw [← h3]
    clear h3 h4 h5
    induction rows with
    | nil => simp
    | cons r t ih =>
      rw [List.flatten_cons, List.length_append, hrl r (.head _), ih (fun r hr => hrl r (.tail _ hr)), List.length_cons, Nat.succ_mul]
      omega
  refine ⟨rows, h3, fun k x r hx hr => ⟨h4 k x r hx hr, hrl r (List.mem_of_getElem? hr)⟩, hfl, a, cap, rfl, ?_⟩
  by_cases h0 : l.length = 0
  · exact .inl h0
  · obtain ⟨b, off, rfl, -, -, hc⟩ := h5 (by omega)
    refine .inr ⟨_, rfl, fun i u hi => ?_⟩
    have hil : i < l.length * sz := by rw [← hfl]; exact (List.getElem?_eq_some_iff.1 hi).1
    have hk : i / sz < rows.length := by rw [h3]; exact Nat.div_lt_of_lt_mul (by rw [Nat.mul_comm]; exact hil)
    have hj : i % sz < (rows[i / sz]).length := by rw [hrl _ (List.getElem_mem hk)]; exact Nat.mod_lt _ hs
    have h6 := flatten_at rows sz (i / sz) (i % sz) rows[i / sz] _ hrl (List.getElem?_eq_getElem hk) (List.getElem?_eq_getElem hj)
    have e : i / sz * sz + i % sz = i := by rw [Nat.mul_comm]; exact Nat.div_add_mod i sz
    rw [e, hi] at h6
    have h7 := hc (i / sz) rows[i / sz] (i % sz) _ (List.getElem?_eq_getElem hk) (List.getElem?_eq_getElem hj)
    have hadd : (⟨b, off, none⟩ : Addr).add i = ⟨b, off + i, none⟩ := by unfold Addr.add; split <;> simp_all
    rw [hadd]
    rw [show off + i / sz * sz + i % sz = off + i by omega] at h7
    rw [h7, ← h6]
theorem wpList_append_L {P : Program} {α : Type} {R : α → List Value → Prop} {S : Nat → Prop} {w : World} {ops : Array Oper} {rest : List Oper} {o : Oper} {a : Act} {Q : Exit → Act → World → Prop} (hgd : o.guard = none) (s x : Operand) (t : TypeId)
    (ho : o.op = .call { callee := .builtin .append, args := #[s, x], argTypes := #[t, t] }) {e : TypeId} {sz bytes : Nat} (T : RowT P e sz bytes) (ht : P.underlying t = some (.slice e)) (n : Nat) (nb : Nat) (hs : a.eval s = .slice (some ⟨nb, 0, none⟩) 0 0)
    (xv : Value) (hx : a.eval x = xv) (l : List α) (hl : SlR S w sz R xv l) (hR : ∀ x r, R x r → r.length = sz ∧ ∀ u ∈ r, u.oneCell' = true) (hn : n ≤ w.heap.size) (hlm : l.length ≤ maxLen) (hby : l.length * bytes ≤ 140737488355328)
    (hK : ∀ v' w', OwnN e sz R n w' v' l → Grow w w' → wpList P ops Q rest (a.put o.dst v') w') : wpList P ops Q (o :: rest) a w := by
  obtain ⟨rows, h1, h2, h3⟩ := SlR.rdN hl T.pos (fun x r h => (hR x r h).1)
  obtain ⟨⟨iP, z, hiP, hzP0, hzP1, hzP2, hzz⟩, hpos⟩ := T
  have hone : ∀ u ∈ rows.flatten, u.oneCell' = true := by
    intro u hu
    obtain ⟨r, hr, hur⟩ := List.mem_flatten.1 hu
    obtain ⟨k, hk, e⟩ := List.getElem_of_mem hr
    exact (hR _ r (h2 k (l[k]'(by omega)) r (List.getElem?_eq_getElem (by omega)) (by rw [List.getElem?_eq_getElem hk, e])).1).2 u hur
  refine wpList_append_S w hgd s x t ho e iP z sz bytes ht hiP hzP0 hzP1 hzP2 hzz hpos _ 0 [] none hs ⟨by simp, .inl ⟨_, rfl, rfl, rfl, by simp⟩⟩ _ hx l.length _ h3 hone (by omega) (by rw [Nat.zero_add]; exact hby) ?_
  intro v' w' ob' k1 k2 k3 _
  have hg : Grow w w' := (k2.mono (F' := fun _ => False) (fun q hq => by cases hq)).grow
  refine hK v' w' ⟨ob', ⟨rows, h1, h2, ?_⟩, ?_⟩ hg
  · simpa using k1
  · intro q hq
    rcases k3 with k3 | ⟨g, k3, hg⟩
    · rw [k3] at hq; cases hq
    · rw [k3] at hq; cases hq; omega
/-- what lay in w0 but not in the row, and what was made since w0, stays -/
theorem wpList_append_Q {P : Program} {α : Type} {R : α → List Value → Prop} {w : World} {ops : Array Oper} {rest : List Oper} {o : Oper} {a : Act} {Q : Exit → Act → World → Prop} (hgd : o.guard = none) (s x : Operand) (t : TypeId)
    (ho : o.op = .call { callee := .builtin .append, args := #[s, x], argTypes := #[t, t] }) {e : TypeId} {sz bytes : Nat} (T : RowT P e sz bytes) (ht : P.underlying t = some (.slice e)) (n : Nat) (v : Value) (l : List α) (hs : a.eval s = v) {w0 : World} (h0 : OwnN e sz R n w0 v l) (g0 : Grow w0 w)
    (y : α) (r : List Value) (hr : R y r) (hrl : r.length = sz) (h1 : ∀ u ∈ r, u.oneCell' = true) (nb : Nat) (hx : a.eval x = .slice (some ⟨nb, 0, none⟩) 1 1) (hrd : Rd w sz (.slice (some ⟨nb, 0, none⟩) 1 1) 1 r) (hn : n ≤ w.heap.size) (hl : l.length + 1 ≤ maxLen) (hby : (l.length + 1) * bytes ≤ 140737488355328)
    (hK : ∀ v' w', OwnN e sz R n w' v' (l ++ [y]) → Mod (fun k => n ≤ k ∧ k < w0.heap.size) w w' → w.heap.size ≤ w'.heap.size → wpList P ops Q rest (a.put o.dst v') w') : wpList P ops Q (o :: rest) a w := by
  obtain ⟨⟨iP, z, hiP, hzP0, hzP1, hzP2, hzz⟩, hpos⟩ := T
  obtain ⟨ob, hL0, h2⟩ := h0
  have hL : OwnL w e sz R v l ob := hL0.keep (fun q hq => g0.heapEq (hL0.lt q hq)) (fun _ _ _ h => h)
  obtain ⟨rows, hlen, hrow, hS⟩ := hL
  refine wpList_append_S w hgd s x t ho e iP z sz bytes ht hiP hzP0 hzP1 hzP2 hzz hpos v l.length _ ob hs hS _ hx 1 _ hrd h1 hl hby ?_
  intro v' w' ob' k1 k2 k3 _
  refine hK v' w' ⟨ob', ?_, ?_⟩ (k2.mono fun q hq => ⟨h2 q hq, hL0.lt q hq⟩) k2.size
  · refine ⟨rows ++ [r], by simp [hlen], fun k x1 r1 hx1 hr1 => ?_, ?_⟩
    · by_cases hk : k < l.length
      · rw [List.getElem?_append_left hk] at hx1
        rw [List.getElem?_append_left (by omega)] at hr1
        exact hrow k x1 r1 hx1 hr1
      · have hk2 : k = l.length := by
          have := (List.getElem?_eq_some_iff.1 hx1).1
          simp at this
          omega
        subst hk2
        rw [List.getElem?_append_right (by omega)] at hx1
        rw [← hlen, List.getElem?_append_right (by omega)] at hr1
        simp at hx1 hr1
        subst hx1; subst hr1
        exact ⟨hr, hrl⟩
    · rw [List.length_append, List.flatten_append]
      simpa using k1
  · intro q hq
    rcases k3 with k3 | ⟨g, k3, hg⟩
    · exact h2 q (k3 ▸ hq)
    · rw [k3] at hq; cases hq; omega
end Go.Hg

namespace Go.Hg
open Go.RowKit Go.Proofs
theorem step_append_R {P : Program} {α : Type} {R : α → List Value → Prop} {w : World} {ops : Array Oper} {o : Oper} {a : Act} {K : Act → World → Prop} {Q : Exit → Act → World → Prop} {E : Prop} (hgd : o.guard = none) (s x : Operand) (t : TypeId)
    (ho : o.op = .call { callee := .builtin .append, args := #[s, x], argTypes := #[t, t] }) {e : TypeId} {sz bytes : Nat} (T : RowT P e sz bytes) (ht : P.underlying t = some (.slice e)) (n : Nat) (v : Value) (l : List α) (hs : a.eval s = v) (h : OwnN e sz R n w v l)
    (y : α) (r : List Value) (hr : R y r) (hrl : r.length = sz) (h1 : ∀ u ∈ r, u.oneCell' = true) (nb : Nat) (hx : a.eval x = .slice (some ⟨nb, 0, none⟩) 1 1) (hrd : Rd w sz (.slice (some ⟨nb, 0, none⟩) 1 1) 1 r) (hn : n ≤ w.heap.size) (hl : l.length + 1 ≤ maxLen) (hby : (l.length + 1) * bytes ≤ 140737488355328)
    (hK : ∀ v' w', OwnN e sz R n w' v' (l ++ [y]) → Since n w w' → w.heap.size ≤ w'.heap.size → K (a.put o.dst v') w') : if Region.wanted o (yielded ops a.tmps) = true then Oper.wp P o a w K Q else E := by
  obtain ⟨⟨iP, z, hiP, hzP0, hzP1, hzP2, hzz⟩, hpos⟩ := T
  obtain ⟨ob, hL, h2⟩ := h
  obtain ⟨rows, hlen, hrow, hS⟩ := hL
  refine step_append_S hgd s x t ho e iP z sz bytes ht hiP hzP0 hzP1 hzP2 hzz hpos v l.length _ ob hs hS _ hx 1 _ hrd h1 hl hby ?_
  intro v' w' ob' k1 k2 k3 _
  refine hK v' w' ⟨ob', ?_, ?_⟩ (k2.mono fun q hq => h2 q hq) k2.size
  · refine ⟨rows ++ [r], by simp [hlen], fun k x1 r1 hx1 hr1 => ?_, ?_⟩
    · by_cases hk : k < l.length
      · rw [List.getElem?_append_left hk] at hx1
        rw [List.getElem?_append_left (by omega)] at hr1
        exact hrow k x1 r1 hx1 hr1
      · have hk2 : k = l.length := by
          have := (List.getElem?_eq_some_iff.1 hx1).1
          simp at this
          omega
        subst hk2
        rw [List.getElem?_append_right (by omega)] at hx1
        rw [← hlen, List.getElem?_append_right (by omega)] at hr1
        simp at hx1 hr1
        subst hx1; subst hr1
        exact ⟨hr, hrl⟩
    · rw [List.length_append, List.flatten_append]
      simpa using k1
  · intro q hq
    rcases k3 with k3 | ⟨g, k3, hg⟩
    · exact h2 q (k3 ▸ hq)
    · rw [k3] at hq; cases hq; omega
theorem step_append_L {P : Program} {α : Type} {R : α → List Value → Prop} {S : Nat → Prop} {w : World} {ops : Array Oper} {o : Oper} {a : Act} {K : Act → World → Prop} {Q : Exit → Act → World → Prop} {E : Prop} (hgd : o.guard = none) (s x : Operand) (t : TypeId)
    (ho : o.op = .call { callee := .builtin .append, args := #[s, x], argTypes := #[t, t] }) {e : TypeId} {sz bytes : Nat} (T : RowT P e sz bytes) (ht : P.underlying t = some (.slice e)) (n : Nat) (nb : Nat) (hs : a.eval s = .slice (some ⟨nb, 0, none⟩) 0 0)
    (xv : Value) (hx : a.eval x = xv) (l : List α) (hl : SlR S w sz R xv l) (hR : ∀ x r, R x r → r.length = sz ∧ ∀ u ∈ r, u.oneCell' = true) (hn : n ≤ w.heap.size) (hlm : l.length ≤ maxLen) (hby : l.length * bytes ≤ 140737488355328)
    (hK : ∀ v' w', OwnN e sz R n w' v' l → Grow w w' → K (a.put o.dst v') w') : if Region.wanted o (yielded ops a.tmps) = true then Oper.wp P o a w K Q else E := by
  obtain ⟨rows, h1, h2, h3⟩ := SlR.rdN hl T.pos (fun x r h => (hR x r h).1)
  obtain ⟨⟨iP, z, hiP, hzP0, hzP1, hzP2, hzz⟩, hpos⟩ := T
  have hone : ∀ u ∈ rows.flatten, u.oneCell' = true := by
    intro u hu
    obtain ⟨r, hr, hur⟩ := List.mem_flatten.1 hu
    obtain ⟨k, hk, e⟩ := List.getElem_of_mem hr
    exact (hR _ r (h2 k (l[k]'(by omega)) r (List.getElem?_eq_getElem (by omega)) (by rw [List.getElem?_eq_getElem hk, e])).1).2 u hur
  refine step_append_S hgd s x t ho e iP z sz bytes ht hiP hzP0 hzP1 hzP2 hzz hpos _ 0 [] none hs ⟨by simp, .inl ⟨_, rfl, rfl, rfl, by simp⟩⟩ _ hx l.length _ h3 hone (by omega) (by rw [Nat.zero_add]; exact hby) ?_
  intro v' w' ob' k1 k2 k3 _
  have hg : Grow w w' := (k2.mono (F' := fun _ => False) (fun q hq => by cases hq)).grow
  refine hK v' w' ⟨ob', ⟨rows, h1, h2, ?_⟩, ?_⟩ hg
  · simpa using k1
  · intro q hq
    rcases k3 with k3 | ⟨g, k3, hg⟩
    · rw [k3] at hq; cases hq
    · rw [k3] at hq; cases hq; omega
end Go.Hg

namespace Go.Hg
open Go.RowKit Go.Proofs

def fairSpots (l : List PSpot) : Bool := (l.all fun s => decide (s.typ.size ≤ 1000) && decide (s.name.size ≤ 1000)) && decide (l.length ≤ 100)
theorem infoRefSpot : (Tryz.prog.info? 140).map (fun i => (i.zero, i.size, i.bytes)) = some (some (.agg #[.int .i64 0, .string ByteArray.empty, .string ByteArray.empty]), 3, 40) := by kernel_rfl
theorem infoSpot : (Tryz.prog.info? 136).map (fun i => (i.zero, i.size, i.bytes)) = some (some (.agg #[.int .i64 0, .string ByteArray.empty, .string ByteArray.empty]), 3, 40) := by kernel_rfl
theorem rowRefSpot : RowT Tryz.prog 140 3 40 := RowT.of infoRefSpot rfl (by omega)
theorem rowSpot : RowT Tryz.prog 136 3 40 := RowT.of infoSpot rfl (by omega)
abbrev PSpot.cells (s : PSpot) : List Value := [.int .i64 s.kind, .string s.typ, .string s.name]
theorem spotCells1 (s : PSpot) : ∀ u ∈ s.cells, u.oneCell' = true := by
  intro u hu
  simp only [List.mem_cons, List.not_mem_nil, or_false] at hu
  rcases hu with rfl | rfl | rfl <;> rfl
theorem rspotOk : ∀ (x : PSpot) (r : List Value), RSpot x r → r.length = 3 ∧ ∀ u ∈ r, u.oneCell' = true := by
  intro x r h
  unfold RSpot at h
  subst h
  exact ⟨rfl, spotCells1 x⟩

set_option maxRecDepth 100000 in
set_option maxHeartbeats 1000000 in
theorem law20Fair (S : Nat → Prop) (v : Value) (l : List PSpot) (w : World) (hl : SpotsR S w v l) :
    Calls Tryz.prog 27 #[v] w fun e w' => e = .returned (.bool (fairSpots l)) ∧ Grow w w' := by
  obtain ⟨aa, ca, rfl, hal, hac, hA⟩ := SlR.open hl
  clear hl
  unfold maxLen at hac
  have HA := Lib.hid hA; clear hA
  have hd : decide ((l.length : Int) ≤ 100) = decide (l.length ≤ 100) := by by_cases h : l.length ≤ 100 <;> simp [h] <;> omega
  have HDD := Lib.hid hd; clear hd
  go_enter Tryz.func27, Tryz.ntmps27
  go_wp2
  go_loopg [3] l.length (fun g i wr => ∃ k : Nat, k ≤ l.length ∧ g = l.length - k ∧ i = .int .i64 k ∧ (∀ y ∈ l.take k, y.typ.size ≤ 1000 ∧ y.name.size ≤ 1000) ∧ Grow w wr)
  case atStart => exact ⟨0, by omega, by omega, rfl, by simp, Grow.rfl' w⟩
  case round =>
    obtain ⟨k, hk, rfl, rfl, hall, hgr⟩ := hrel
    have HALL := Lib.hid hall; have HGR := Lib.hid hgr; clear hall
    by_cases hkl : k < l.length
    · obtain ⟨ba, oa, ra, rfl, hSa, hba, hRa, hca⟩ := HA.out k l[k] (List.getElem?_eq_getElem hkl)
      obtain ⟨hba', a0, a1, a2⟩ := spotAt hRa hba hgr hca
      clear hca hRa hSa hba hgr
      have HM := Lib.hid (show l[k] ∈ l from List.getElem_mem hkl)
      have HT := Lib.hid (show l.take (k + 1) = l.take k ++ [l[k]] from List.take_succ_eq_append_getElem hkl)
      generalize l[k] = x at *
      obtain ⟨b1, hb1⟩ : ∃ b, decide ((x.typ.size : Int) > 1000) = b := ⟨_, rfl⟩
      obtain ⟨b2, hb2⟩ : ∃ b, decide ((x.name.size : Int) > 1000) = b := ⟨_, rfl⟩
      cases b1
      · cases b2
        · have HX := Lib.hid (show x.typ.size ≤ 1000 ∧ x.name.size ≤ 1000 by have h1 := of_decide_eq_false hb1; have h2 := of_decide_eq_false hb2; omega)
          go_wp2
          go_roundg (l.length - (k + 1))
          case measure => omega
          case rel => exact ⟨k + 1, by omega, rfl, by go_num, by rw [HT.out]; intro y hy; rcases List.mem_append.1 hy with h | h; exact HALL.out y h; simp at h; subst h; exact HX.out, HGR.out⟩
        · have HF := Lib.hid (show fairSpots l = false by unfold fairSpots; rw [List.all_eq_false.2 ⟨x, HM.out, by have h2 := of_decide_eq_true hb2; simp; omega⟩]; rfl)
          go_wp2
          go_ret
          exact ⟨by rw [HF.out]; rfl, HGR.out⟩
      · have HF := Lib.hid (show fairSpots l = false by unfold fairSpots; rw [List.all_eq_false.2 ⟨x, HM.out, by have h2 := of_decide_eq_true hb1; simp; omega⟩]; rfl)
        go_wp2
        go_ret
        exact ⟨by rw [HF.out]; rfl, HGR.out⟩
    · have HF := Lib.hid (show fairSpots l = decide (l.length ≤ 100) by
        have h1 : l.take k = l := List.take_of_length_le (by omega)
        have h2 := HALL.out
        rw [h1] at h2
        unfold fairSpots
        rw [List.all_eq_true.2 (fun y hy => by have h := h2 y hy; simp; omega)]
        rfl)
      have hd := HDD.out
      clear hgr
      go_wp2
      go_ret
      exact ⟨by rw [HF.out]; first | rfl | (rw [← hd]; rfl), HGR.out⟩

set_option maxRecDepth 100000 in
set_option maxHeartbeats 1000000 in
theorem law20Own (S : Nat → Prop) (v : Value) (l : List PSpot) (w : World) (hl : SpotsR S w v l) (hb : l.length ≤ 1099511627776) :
    Calls Tryz.prog 32 #[v] w fun e w' => ∃ v', e = .returned v' ∧ SpotsR (fun b => w.heap.size ≤ b) w' v' l ∧ Grow w w' := by
  obtain ⟨aa, ca, rfl, hal, hac, hA⟩ := SlR.open hl
  clear hl
  unfold maxLen at hac
  have HA := Lib.hid hA; clear hA
  have HI0 := Lib.hid (OwnN.nil (e := 140) (sz := 3) (R := RSpot) w.heap.size w)
  go_enter Tryz.func32, Tryz.ntmps32
  go_wp2
  go_loopg [3, 4] l.length (fun g ov i wr => ∃ k : Nat, k ≤ l.length ∧ g = l.length - k ∧ i = .int .i64 k ∧ OwnN 140 3 RSpot w.heap.size wr ov (l.take k) ∧ Grow w wr)
  case atStart => exact ⟨0, by omega, by omega, rfl, by simpa using HI0.out, Grow.rfl' w⟩
  case round =>
    obtain ⟨k, hk, rfl, rfl, hi, hgr⟩ := hrel
    obtain ⟨oa, co, rfl, _, _⟩ := hi.isSlice
    have HI := Lib.hid hi; have HG := Lib.hid hgr
    by_cases hkl : k < l.length
    · obtain ⟨ba, oa', ra, rfl, hSa, hba, hRa, hca⟩ := HA.out k l[k] (List.getElem?_eq_getElem hkl)
      have HX := Lib.hid (show ∀ w', Grow w w' → _ from fun w' g => spotAt hRa hba g hca)
      obtain ⟨hba', a0, a1, a2⟩ := HX.out wr.drew hgr.drewd
      have HT := Lib.hid (show l.take (k + 1) = l.take k ++ [l[k]] from List.take_succ_eq_append_getElem hkl)
      have HLE := Lib.hid (show (l.take k).length ≤ l.length by rw [List.length_take]; omega)
      clear hca hRa hSa hba hi hgr
      generalize l[k] = x at *
      generalize hfl : l.take k = fl at *
      have HE := Lib.hid (show ∀ o1, Grow w (wr.drew.alloc o1) ∧ OwnN 140 3 RSpot w.heap.size (wr.drew.alloc o1) (.slice oa fl.length co) fl from fun o1 => ⟨HG.out.drewd.allocd o1, HI.out.grow ((Grow.rfl' wr).drewd.allocd o1)⟩)
      have hzs := HG.out.size
      clear hfl
      go_wp2_with fail
      go_region_law (refine step_append_R rfl (.tmp 11) (.tmp 28) 67 rfl rowRefSpot Tryz.underlying67 w.heap.size _ fl (by first | rfl | simp [Act.eval]) (HE.out _).2 x x.cells rfl rfl (spotCells1 x) wr.heap.size (by first | rfl | simp [Act.eval]) (rdK _ _ _ 3 rfl rfl) (by simp; omega) (by have := HLE.out; unfold maxLen; omega) (by have := HLE.out; omega) ?_; intro v5 w5 k1 k2 k3; have H5 := Lib.hid k1; have HG5 := Lib.hid ((HE.out _).1.since k2 (Nat.le_refl _)); clear k1 k2 k3)
      all_goals
        go_wp2
        go_roundg (l.length - (k + 1))
        case measure => omega
        case rel => exact ⟨k + 1, by omega, rfl, by go_num, by rw [HT.out]; exact H5.out, HG5.out⟩
    · have hkk : l.take k = l := List.take_of_length_le (by omega)
      rw [hkk] at HI
      simp only [hkk]
      have HI2 := Lib.hid HI.out.toR
      clear hkk hi hgr
      go_wp2
      go_ret
      exact ⟨_, rfl, HI2.out, HG.out⟩
end Go.Hg

namespace Go.Hg
open Go.RowKit Go.Proofs

set_option maxRecDepth 100000 in
set_option maxHeartbeats 4000000 in
theorem keepCopyCat (S : Nat → Prop) (nv ev rv iv : Value) (c : PCat) (w : World) (hc : CatR S w nv ev rv iv c) (hb : c.nodes.length ≤ 100 ∧ c.edges.length ≤ 100 ∧ c.rules.length ≤ 100 ∧ c.indexes.length ≤ 100) :
    Calls Tryz.prog 28 #[c.arg nv ev rv iv] w fun e w' => ∃ nv' ev' rv' iv', e = .returned (c.arg nv' ev' rv' iv') ∧ CatR (fun b => w.heap.size ≤ b) w' nv' ev' rv' iv' c ∧ Grow w w' := by
  obtain ⟨na, nc, ea, ec, ra, rc, ia, ic, rfl, rfl, rfl, rfl⟩ := hc.slices
  obtain ⟨iS, hiS, hzS0, hzS1, hzS2⟩ := info_parts infoStr
  obtain ⟨iR, hiR, hzR0, hzR1, hzR2⟩ := info_parts infoRule
  obtain ⟨iI, hiI, hzI0, hzI1, hzI2⟩ := info_parts infoIndex
  obtain ⟨rows0, hl0, hr0, ho0, hd0⟩ := SlR.rows (R := RStr) hc.1 (by rintro x r rfl; rfl) oneStr
  have HL0 := Lib.hid hl0; have HR0 := Lib.hid hr0; have HO0 := Lib.hid ho0; have HD0 := Lib.hid hd0
  clear hl0 hr0 ho0 hd0
  obtain ⟨rows1, hl1, hr1, ho1, hd1⟩ := SlR.rows (R := RStr) hc.2.1 (by rintro x r rfl; rfl) oneStr
  have HL1 := Lib.hid hl1; have HR1 := Lib.hid hr1; have HO1 := Lib.hid ho1; have HD1 := Lib.hid hd1
  clear hl1 hr1 ho1 hd1
  obtain ⟨rows2, hl2, hr2, ho2, hd2⟩ := SlR.rows (R := RRule) hc.2.2.1 (by rintro x r rfl; rfl) oneRule
  have HL2 := Lib.hid hl2; have HR2 := Lib.hid hr2; have HO2 := Lib.hid ho2; have HD2 := Lib.hid hd2
  clear hl2 hr2 ho2 hd2
  obtain ⟨rows3, hl3, hr3, ho3, hd3⟩ := SlR.rows (R := RIndex) hc.2.2.2 (by rintro x r rfl; rfl) oneIndex
  have HL3 := Lib.hid hl3; have HR3 := Lib.hid hr3; have HO3 := Lib.hid ho3; have HD3 := Lib.hid hd3
  clear hl3 hr3 ho3 hd3
  have HBD := Lib.hid hb
  have HW := Lib.hid (show ∀ o1 o2, Grow w ((w.alloc o1).alloc o2) from fun o1 o2 => ((Grow.rfl' w).allocd o1).allocd o2)
  have HBX := Lib.hid (boxes2 w (.slice na c.nodes.length nc) (.slice ea c.edges.length ec) (.slice ra c.rules.length rc) (.slice ia c.indexes.length ic) (.slice none 0 0) (.slice none 0 0) (.slice none 0 0) (.slice none 0 0) c.nextRule 0 52)
  clear hc hb
  go_enter Tryz.func28, Tryz.ntmps28

  have HLA0 := Lib.hid (show ∀ o1 o2, OwnS (((w.alloc o1).alloc o2).alloc (.cells #[] 9)) 9 1 (.slice (some ⟨w.heap.size + 1 + 1, 0, none⟩) 0 0) 0 [] (some (w.heap.size + 1 + 1)) from fun o1 o2 => by
    have := OwnS.lit ((w.alloc o1).alloc o2) #[] 9 1 0 (by unfold maxLen; omega) (by simp)
    simpa using this)
  have HGA0 := Lib.hid (show ∀ o1 o2 o3, Grow w (((w.alloc o1).alloc o2).alloc o3) from fun o1 o2 o3 => (HW.out o1 o2).allocd o3)
  go_wp2_with (at_builtin; go_must (refine wpList_append_S _ rfl (.tmp 3) (.tmp 5) 48 rfl 9 iS _ 1 16 Tryz.underlying48 hiS hzS0 hzS1 hzS2 rfl (by decide) (.slice (some ⟨w.heap.size + 1 + 1, 0, none⟩) 0 0) 0 [] (some (w.heap.size + 1 + 1)) rfl (HLA0.out _ _) (.slice na c.nodes.length nc) rfl c.nodes.length _ (HD0.out _ (HGA0.out _ _ _)) HO0.out (by have := HBD.out; unfold maxLen; omega) (by have := HBD.out; omega) ?_))
  intro v0 wb0 ob0 k1 k2 k3 _
  have hlo0 : ∀ g, ob0 = some g → w.heap.size + 2 ≤ g := fun g hg => by
    rcases k3 with k3 | ⟨g', k3, hge⟩
    · rw [k3] at hg; cases hg; omega
    · rw [k3] at hg; cases hg; first | omega | (simp at hge; omega)
  have HGW0 := Lib.hid (show Grow w wb0 from (HGA0.out _ _ _).modd k2 (fun b hb => by have hb' : _ = b := hb; omega))
  have HB0 := Lib.hid (show wb0.heap[w.heap.size]? = some (.cells #[.slice na c.nodes.length nc, .slice ea c.edges.length ec, .slice ra c.rules.length rc, .slice ia c.indexes.length ic, .int .i64 c.nextRule] 52 (0, 0)) from (k2.block _ (by simp <;> omega) (fun hb => by omega)).trans (HBX.out.1 _ ((Grow.rfl' _).allocd _)))
  have HZ0 := Lib.hid (show wb0.heap[w.heap.size + 1]? = some (.cells #[.slice none 0 0, .slice none 0 0, .slice none 0 0, .slice none 0 0, .int .i64 0] 52 (0, 0)) from (k2.block _ (by simp <;> omega) (fun hb => by omega)).trans (HBX.out.2 _ ((Grow.rfl' _).allocd _)))
  have HLO0 := Lib.hid (show w.heap.size + 2 ≤ wb0.heap.size by have := k2.size; simp at this; omega)
  have hO0 := rows_own HL0.out HR0.out k1
  have SR0 := Lib.hid (show SlR (fun b => w.heap.size + 2 ≤ b) wb0 1 RStr v0 c.nodes from hO0.toSl hlo0)
  obtain ⟨a0, c0, rfl⟩ : ∃ a cc, v0 = .slice a c.nodes.length cc := by obtain ⟨_, _, _, h⟩ := hO0; obtain ⟨oa, cap, h, _⟩ := h.isSlice; exact ⟨oa, cap, h⟩
  clear k1 k2 k3 hlo0 hO0
  have zl0 : w.heap.size < wb0.heap.size := blk_lt HB0.out
  have z0 : wb0.cell? ⟨w.heap.size, 0, none⟩ = some (.slice na c.nodes.length nc) := by rw [blk_cell HB0.out]; rfl
  have zf0 := blk_free HB0.out 0
  have y0 : wb0.cell? ⟨w.heap.size, 1, none⟩ = some (.slice ea c.edges.length ec) := by rw [blk_cell HB0.out]; rfl
  have HLA1 := Lib.hid (show ∀ u, OwnS ((wb0.setCell ⟨w.heap.size, 0, none⟩ u).alloc (.cells #[] 9)) 9 1 (.slice (some ⟨wb0.heap.size, 0, none⟩) 0 0) 0 [] (some wb0.heap.size) from fun u => by
    have := OwnS.lit (wb0.setCell ⟨w.heap.size, 0, none⟩ u) #[] 9 1 0 (by unfold maxLen; omega) (by simp)
    simpa using this)
  have HGA1 := Lib.hid (show ∀ u o3, Grow w ((wb0.setCell ⟨w.heap.size, 0, none⟩ u).alloc o3) from fun u o3 => (HGW0.out.setd (p := ⟨w.heap.size, 0, none⟩) (Nat.le_refl _) u).allocd o3)
  go_wp2_with (at_builtin; go_must (refine wpList_append_S _ rfl (.tmp 8) (.tmp 10) 48 rfl 9 iS _ 1 16 Tryz.underlying48 hiS hzS0 hzS1 hzS2 rfl (by decide) (.slice (some ⟨wb0.heap.size, 0, none⟩) 0 0) 0 [] (some (wb0.heap.size)) rfl (HLA1.out _) (.slice ea c.edges.length ec) rfl c.edges.length _ (HD1.out _ (HGA1.out _ _)) HO1.out (by have := HBD.out; unfold maxLen; omega) (by have := HBD.out; omega) ?_))
  intro v1 wb1 ob1 k1 k2 k3 _
  have hlo1 : ∀ g, ob1 = some g → w.heap.size + 2 ≤ g := fun g hg => by
    rcases k3 with k3 | ⟨g', k3, hge⟩
    · rw [k3] at hg; cases hg; exact HLO0.out
    · rw [k3] at hg; cases hg; have := HLO0.out; first | omega | (simp at hge; omega)
  have hm1 : ∀ u, Mod (fun b => b = w.heap.size) (wb0.setCell ⟨w.heap.size, 0, none⟩ u) ((wb0.setCell ⟨w.heap.size, 0, none⟩ u).alloc (.cells #[] 9)) := fun u => Mod.of_grow ((Grow.rfl' _).allocd _)
  have HM1 := Lib.hid (show Mod (fun b => b = w.heap.size) wb0 wb1 from (((Mod.rfl' (fun b => b = w.heap.size) wb0).setd (p := ⟨w.heap.size, 0, none⟩) (.inl rfl) _).allocd _).step' k2 (fun b hb => .inr (by have hb' : _ = b := hb; omega)))
  have HGW1 := Lib.hid (HGW0.out.modd HM1.out (fun b hb => by omega))
  have HLO1 := Lib.hid (show w.heap.size + 2 ≤ wb1.heap.size from Nat.le_trans HLO0.out HM1.out.size)
  have HB1 := Lib.hid (show wb1.heap[w.heap.size]? = some (.cells #[.slice a0 c.nodes.length c0, .slice ea c.edges.length ec, .slice ra c.rules.length rc, .slice ia c.indexes.length ic, .int .i64 c.nextRule] 52 (0, 0)) from (k2.block _ (by have := HLO0.out; simp <;> omega) (fun hb => by have := HLO0.out; omega)).trans (((Grow.rfl' (wb0.setCell ⟨w.heap.size, 0, none⟩ _)).allocd _ |>.heapEq (by have := HLO0.out; simp <;> omega)).trans ((heap_setCell_same wb0 w.heap.size 0 _ _ _ HB0.out).trans rfl)))
  have HZ1 := Lib.hid ((HM1.out.block (w.heap.size + 1) (by have := HLO0.out; omega) (by omega)).trans HZ0.out)
  clear hm1
  have SR0 := Lib.hid (SlR.modS SR0.out HM1.out (fun b hb e => by omega))
  have hO1 := rows_own HL1.out HR1.out k1
  have SR1 := Lib.hid (show SlR (fun b => w.heap.size + 2 ≤ b) wb1 1 RStr v1 c.edges from hO1.toSl hlo1)
  obtain ⟨a1, c1, rfl⟩ : ∃ a cc, v1 = .slice a c.edges.length cc := by obtain ⟨_, _, _, h⟩ := hO1; obtain ⟨oa, cap, h, _⟩ := h.isSlice; exact ⟨oa, cap, h⟩
  clear k1 k2 k3 hlo1 hO1
  have zl1 : w.heap.size < wb1.heap.size := blk_lt HB1.out
  have z1 : wb1.cell? ⟨w.heap.size, 1, none⟩ = some (.slice ea c.edges.length ec) := by rw [blk_cell HB1.out]; rfl
  have zf1 := blk_free HB1.out 1
  have y1 : wb1.cell? ⟨w.heap.size, 2, none⟩ = some (.slice ra c.rules.length rc) := by rw [blk_cell HB1.out]; rfl
  have HLA2 := Lib.hid (show ∀ u, OwnS ((wb1.setCell ⟨w.heap.size, 1, none⟩ u).alloc (.cells #[] 24)) 24 8 (.slice (some ⟨wb1.heap.size, 0, none⟩) 0 0) 0 [] (some wb1.heap.size) from fun u => by
    have := OwnS.lit (wb1.setCell ⟨w.heap.size, 1, none⟩ u) #[] 24 8 0 (by unfold maxLen; omega) (by simp)
    simpa using this)
  have HGA2 := Lib.hid (show ∀ u o3, Grow w ((wb1.setCell ⟨w.heap.size, 1, none⟩ u).alloc o3) from fun u o3 => (HGW1.out.setd (p := ⟨w.heap.size, 1, none⟩) (Nat.le_refl _) u).allocd o3)
  go_wp2_with (at_builtin; go_must (refine wpList_append_S _ rfl (.tmp 13) (.tmp 15) 49 rfl 24 iR _ 8 96 Tryz.underlying49 hiR hzR0 hzR1 hzR2 rfl (by decide) (.slice (some ⟨wb1.heap.size, 0, none⟩) 0 0) 0 [] (some (wb1.heap.size)) rfl (HLA2.out _) (.slice ra c.rules.length rc) rfl c.rules.length _ (HD2.out _ (HGA2.out _ _)) HO2.out (by have := HBD.out; unfold maxLen; omega) (by have := HBD.out; omega) ?_))
  intro v2 wb2 ob2 k1 k2 k3 _
  have hlo2 : ∀ g, ob2 = some g → w.heap.size + 2 ≤ g := fun g hg => by
    rcases k3 with k3 | ⟨g', k3, hge⟩
    · rw [k3] at hg; cases hg; exact HLO1.out
    · rw [k3] at hg; cases hg; have := HLO1.out; first | omega | (simp at hge; omega)
  have hm2 : ∀ u, Mod (fun b => b = w.heap.size) (wb1.setCell ⟨w.heap.size, 1, none⟩ u) ((wb1.setCell ⟨w.heap.size, 1, none⟩ u).alloc (.cells #[] 24)) := fun u => Mod.of_grow ((Grow.rfl' _).allocd _)
  have HM2 := Lib.hid (show Mod (fun b => b = w.heap.size) wb1 wb2 from (((Mod.rfl' (fun b => b = w.heap.size) wb1).setd (p := ⟨w.heap.size, 1, none⟩) (.inl rfl) _).allocd _).step' k2 (fun b hb => .inr (by have hb' : _ = b := hb; omega)))
  have HGW2 := Lib.hid (HGW1.out.modd HM2.out (fun b hb => by omega))
  have HLO2 := Lib.hid (show w.heap.size + 2 ≤ wb2.heap.size from Nat.le_trans HLO1.out HM2.out.size)
  have HB2 := Lib.hid (show wb2.heap[w.heap.size]? = some (.cells #[.slice a0 c.nodes.length c0, .slice a1 c.edges.length c1, .slice ra c.rules.length rc, .slice ia c.indexes.length ic, .int .i64 c.nextRule] 52 (0, 0)) from (k2.block _ (by have := HLO1.out; simp <;> omega) (fun hb => by have := HLO1.out; omega)).trans (((Grow.rfl' (wb1.setCell ⟨w.heap.size, 1, none⟩ _)).allocd _ |>.heapEq (by have := HLO1.out; simp <;> omega)).trans ((heap_setCell_same wb1 w.heap.size 1 _ _ _ HB1.out).trans rfl)))
  have HZ2 := Lib.hid ((HM2.out.block (w.heap.size + 1) (by have := HLO1.out; omega) (by omega)).trans HZ1.out)
  clear hm2
  have SR0 := Lib.hid (SlR.modS SR0.out HM2.out (fun b hb e => by omega))
  have SR1 := Lib.hid (SlR.modS SR1.out HM2.out (fun b hb e => by omega))
  have hO2 := rows_own HL2.out HR2.out k1
  have SR2 := Lib.hid (show SlR (fun b => w.heap.size + 2 ≤ b) wb2 8 RRule v2 c.rules from hO2.toSl hlo2)
  obtain ⟨a2, c2, rfl⟩ : ∃ a cc, v2 = .slice a c.rules.length cc := by obtain ⟨_, _, _, h⟩ := hO2; obtain ⟨oa, cap, h, _⟩ := h.isSlice; exact ⟨oa, cap, h⟩
  clear k1 k2 k3 hlo2 hO2
  have zl2 : w.heap.size < wb2.heap.size := blk_lt HB2.out
  have z2 : wb2.cell? ⟨w.heap.size, 2, none⟩ = some (.slice ra c.rules.length rc) := by rw [blk_cell HB2.out]; rfl
  have zf2 := blk_free HB2.out 2
  have y2 : wb2.cell? ⟨w.heap.size, 3, none⟩ = some (.slice ia c.indexes.length ic) := by rw [blk_cell HB2.out]; rfl
  have HLA3 := Lib.hid (show ∀ u, OwnS ((wb2.setCell ⟨w.heap.size, 2, none⟩ u).alloc (.cells #[] 134)) 134 2 (.slice (some ⟨wb2.heap.size, 0, none⟩) 0 0) 0 [] (some wb2.heap.size) from fun u => by
    have := OwnS.lit (wb2.setCell ⟨w.heap.size, 2, none⟩ u) #[] 134 2 0 (by unfold maxLen; omega) (by simp)
    simpa using this)
  have HGA3 := Lib.hid (show ∀ u o3, Grow w ((wb2.setCell ⟨w.heap.size, 2, none⟩ u).alloc o3) from fun u o3 => (HGW2.out.setd (p := ⟨w.heap.size, 2, none⟩) (Nat.le_refl _) u).allocd o3)
  go_wp2_with (at_builtin; go_must (refine wpList_append_S _ rfl (.tmp 18) (.tmp 20) 50 rfl 134 iI _ 2 32 Tryz.underlying50 hiI hzI0 hzI1 hzI2 rfl (by decide) (.slice (some ⟨wb2.heap.size, 0, none⟩) 0 0) 0 [] (some (wb2.heap.size)) rfl (HLA3.out _) (.slice ia c.indexes.length ic) rfl c.indexes.length _ (HD3.out _ (HGA3.out _ _)) HO3.out (by have := HBD.out; unfold maxLen; omega) (by have := HBD.out; omega) ?_))
  intro v3 wb3 ob3 k1 k2 k3 _
  have hlo3 : ∀ g, ob3 = some g → w.heap.size + 2 ≤ g := fun g hg => by
    rcases k3 with k3 | ⟨g', k3, hge⟩
    · rw [k3] at hg; cases hg; exact HLO2.out
    · rw [k3] at hg; cases hg; have := HLO2.out; first | omega | (simp at hge; omega)
  have hm3 : ∀ u, Mod (fun b => b = w.heap.size) (wb2.setCell ⟨w.heap.size, 2, none⟩ u) ((wb2.setCell ⟨w.heap.size, 2, none⟩ u).alloc (.cells #[] 134)) := fun u => Mod.of_grow ((Grow.rfl' _).allocd _)
  have HM3 := Lib.hid (show Mod (fun b => b = w.heap.size) wb2 wb3 from (((Mod.rfl' (fun b => b = w.heap.size) wb2).setd (p := ⟨w.heap.size, 2, none⟩) (.inl rfl) _).allocd _).step' k2 (fun b hb => .inr (by have hb' : _ = b := hb; omega)))
  have HGW3 := Lib.hid (HGW2.out.modd HM3.out (fun b hb => by omega))
  have HLO3 := Lib.hid (show w.heap.size + 2 ≤ wb3.heap.size from Nat.le_trans HLO2.out HM3.out.size)
  have HB3 := Lib.hid (show wb3.heap[w.heap.size]? = some (.cells #[.slice a0 c.nodes.length c0, .slice a1 c.edges.length c1, .slice a2 c.rules.length c2, .slice ia c.indexes.length ic, .int .i64 c.nextRule] 52 (0, 0)) from (k2.block _ (by have := HLO2.out; simp <;> omega) (fun hb => by have := HLO2.out; omega)).trans (((Grow.rfl' (wb2.setCell ⟨w.heap.size, 2, none⟩ _)).allocd _ |>.heapEq (by have := HLO2.out; simp <;> omega)).trans ((heap_setCell_same wb2 w.heap.size 2 _ _ _ HB2.out).trans rfl)))
  have HZ3 := Lib.hid ((HM3.out.block (w.heap.size + 1) (by have := HLO2.out; omega) (by omega)).trans HZ2.out)
  clear hm3
  have SR0 := Lib.hid (SlR.modS SR0.out HM3.out (fun b hb e => by omega))
  have SR1 := Lib.hid (SlR.modS SR1.out HM3.out (fun b hb e => by omega))
  have SR2 := Lib.hid (SlR.modS SR2.out HM3.out (fun b hb e => by omega))
  have hO3 := rows_own HL3.out HR3.out k1
  have SR3 := Lib.hid (show SlR (fun b => w.heap.size + 2 ≤ b) wb3 2 RIndex v3 c.indexes from hO3.toSl hlo3)
  obtain ⟨a3, c3, rfl⟩ : ∃ a cc, v3 = .slice a c.indexes.length cc := by obtain ⟨_, _, _, h⟩ := hO3; obtain ⟨oa, cap, h, _⟩ := h.isSlice; exact ⟨oa, cap, h⟩
  clear k1 k2 k3 hlo3 hO3
  have zl3 : w.heap.size < wb3.heap.size := blk_lt HB3.out
  have z3 : wb3.cell? ⟨w.heap.size, 3, none⟩ = some (.slice ia c.indexes.length ic) := by rw [blk_cell HB3.out]; rfl
  have zf3 := blk_free HB3.out 3
  have e0 : wb3.cell? ⟨w.heap.size, 0, none⟩ = some (.slice a0 c.nodes.length c0) := by rw [blk_cell HB3.out]; rfl
  have e1 : wb3.cell? ⟨w.heap.size, 1, none⟩ = some (.slice a1 c.edges.length c1) := by rw [blk_cell HB3.out]; rfl
  have e2 : wb3.cell? ⟨w.heap.size, 2, none⟩ = some (.slice a2 c.rules.length c2) := by rw [blk_cell HB3.out]; rfl
  have e4 : wb3.cell? ⟨w.heap.size, 4, none⟩ = some (.int .i64 c.nextRule) := by rw [blk_cell HB3.out]; rfl
  have t0 : wb3.cell? ⟨w.heap.size + 1, 0, none⟩ = some (.slice none 0 0) := by rw [blk_cell HZ3.out]; rfl
  have tf0 := blk_free HZ3.out 0
  have t1 : wb3.cell? ⟨w.heap.size + 1, 1, none⟩ = some (.slice none 0 0) := by rw [blk_cell HZ3.out]; rfl
  have tf1 := blk_free HZ3.out 1
  have t2 : wb3.cell? ⟨w.heap.size + 1, 2, none⟩ = some (.slice none 0 0) := by rw [blk_cell HZ3.out]; rfl
  have tf2 := blk_free HZ3.out 2
  have t3 : wb3.cell? ⟨w.heap.size + 1, 3, none⟩ = some (.slice none 0 0) := by rw [blk_cell HZ3.out]; rfl
  have tf3 := blk_free HZ3.out 3
  have t4 : wb3.cell? ⟨w.heap.size + 1, 4, none⟩ = some (.int .i64 0) := by rw [blk_cell HZ3.out]; rfl
  have tf4 := blk_free HZ3.out 4
  have tl : w.heap.size + 1 < wb3.heap.size := blk_lt HZ3.out
  go_wp2
  have HF := Lib.hid (show Mod (fun b => b = w.heap.size ∨ b = w.heap.size + 1) wb3 _ from ((((((Mod.rfl' (fun b => b = w.heap.size ∨ b = w.heap.size + 1) wb3).setd (p := ⟨w.heap.size, 3, none⟩) (.inl (.inl rfl)) (.slice a3 c.indexes.length c3)).setd (p := ⟨w.heap.size + 1, 0, none⟩) (.inl (.inr rfl)) (.slice a0 c.nodes.length c0)).setd (p := ⟨w.heap.size + 1, 1, none⟩) (.inl (.inr rfl)) (.slice a1 c.edges.length c1)).setd (p := ⟨w.heap.size + 1, 2, none⟩) (.inl (.inr rfl)) (.slice a2 c.rules.length c2)).setd (p := ⟨w.heap.size + 1, 3, none⟩) (.inl (.inr rfl)) (.slice a3 c.indexes.length c3)).setd (p := ⟨w.heap.size + 1, 4, none⟩) (.inl (.inr rfl)) (.int .i64 c.nextRule))
  refine bodyPost_ret (v := c.arg (.slice a0 c.nodes.length c0) (.slice a1 c.edges.length c1) (.slice a2 c.rules.length c2) (.slice a3 c.indexes.length c3)) ?_ rfl ⟨_, _, _, _, rfl, ⟨?_, ?_, ?_, ?_⟩, HGW3.out.modd HF.out (fun b hb => by omega)⟩
  · rw [results_cell1 rfl]
    go_simp
  · exact SlR.sub (SlR.modS SR0.out HF.out (fun b hb e => by omega)) (fun b hb => by omega) (fun _ _ _ h => h)
  · exact SlR.sub (SlR.modS SR1.out HF.out (fun b hb e => by omega)) (fun b hb => by omega) (fun _ _ _ h => h)
  · exact SlR.sub (SlR.modS SR2.out HF.out (fun b hb e => by omega)) (fun b hb => by omega) (fun _ _ _ h => h)
  · exact SlR.sub (SlR.modS SR3.out HF.out (fun b hb e => by omega)) (fun b hb => by omega) (fun _ _ _ h => h)
end Go.Hg
