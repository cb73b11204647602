/- slices.SortFunc at nodes and edges, by their Ids (undo.again); graph.Load, Copy; undo.gone: what has an Id is taken away; undo.again: nodes and edges are brought back; What a change's closure holds, and that it takes the change back; undo.prop: a property's value. Conditions: those that each theorem names. -/
import Derived.WalkKit
import Derived.WalkSpells
import Derived.WalkLawsBesides
import Derived.Lib.Hide
import Derived.BigQuiet
import Derived.Deep.LoopGhost
import Derived.Maps.OwnOps
import Derived.Maps.OwnSet
import Derived.Carry
import Derived.Test.YtfachjfohhhgeaaGreatRows
import Derived.Lib.SlKeysI
import Derived.Lib.SliceRun
import Derived.WideMake
import Derived.Deep.RegionLaw
import Derived.Lib.Overlaps
import Derived.Deep.RegionHeld3
import Derived.Laws.ResultCell
import Derived.Shelf.SlSortCmp.WholeK
import Derived.Laws.EntriesVeiled
import Derived.Test.YtfachjfohhhgeaaGreatUnF
namespace Go.Hg
open Go.RowKit Go.Proofs Go.Sort Go.Shelf

instance : Inhabited PNode := ⟨⟨0, ByteArray.empty, []⟩⟩
instance : Inhabited PEdge := ⟨⟨0, ByteArray.empty, 0, 0, []⟩⟩

abbrev NRow := PNode × Option Addr × Nat × Nat
def NRow.cs (r : NRow) : List Value := [.int .i64 r.1.id, .string r.1.typ, .slice r.2.1 r.2.2.1 r.2.2.2]
def NRow.id (r : NRow) : Int := r.1.id
theorem NRow.one (r : NRow) : ∀ u ∈ NRow.cs r, u.oneCell' = true := by
  intro u hu
  simp only [NRow.cs, List.mem_cons, List.not_mem_nil, or_false] at hu
  rcases hu with rfl | rfl | rfl <;> rfl
theorem rowsN {S : Nat → Prop} {w : World} : ∀ {l : List PNode} {rows : List (List Value)}, rows.length = l.length → (∀ (k : Nat) x r, l[k]? = some x → rows[k]? = some r → RNode S w x r) →
    ∃ ds : List NRow, ds.map (·.1) = l ∧ ds.map NRow.cs = rows ∧ ∀ d ∈ ds, PropsR S w (.slice d.2.1 d.2.2.1 d.2.2.2) d.1.props
  | [], [], _, _ => ⟨[], rfl, rfl, by simp⟩
  | [], _ :: _, h, _ => by simp at h
  | _ :: _, [], h, _ => by simp at h
  | x :: l, r :: rows, h, hR => by
    obtain ⟨ds, h1, h2, h3⟩ := rowsN (l := l) (rows := rows) (by simpa using h) (fun k y s hy hs => hR (k + 1) y s (by simpa using hy) (by simpa using hs))
    obtain ⟨pv, rfl, hp⟩ := hR 0 x r rfl rfl
    obtain ⟨a, c, rfl⟩ := hp.isSlice
    refine ⟨(x, a, x.props.length, c) :: ds, by simp [h1], by simp [h2, NRow.cs], fun d hd => ?_⟩
    rcases List.mem_cons.1 hd with rfl | hd
    · exact hp
    · exact h3 d hd
set_option maxRecDepth 100000 in
set_option maxHeartbeats 1000000 in
theorem againNCmp (x y : NRow) (w : World) : Calls Tryz.prog 100 #[.agg ((NRow.cs x).toArray), .agg ((NRow.cs y).toArray)] w fun e w' => e = .returned (.int .i64 (cmpBy NRow.id x y)) ∧ LaidU w w' := by
  show Calls Tryz.prog 100 #[.agg #[.int .i64 x.1.id, .string x.1.typ, .slice x.2.1 x.2.2.1 x.2.2.2], .agg #[.int .i64 y.1.id, .string y.1.typ, .slice y.2.1 y.2.2.1 y.2.2.2]] w _
  have HL := Lib.hid (LaidU.alloc2 w)
  have HC := Lib.hid (show cmpBy NRow.id x y = cmpZ x.1.id y.1.id from rfl)
  obtain ⟨x, xa, xn, xc⟩ := x
  obtain ⟨y, ya, yn, yc⟩ := y
  dsimp only at HC ⊢
  go_enter Tryz.func100, Tryz.ntmps100
  go_wp2_with fail
  refine (cmpCompareL x.id y.id _).mono ?_
  rintro e w' ⟨rfl, rfl⟩
  go_wp2
  go_ret
  exact ⟨by rw [HC.out]; rfl, HL.out _ _⟩
set_option maxRecDepth 100000 in
set_option maxHeartbeats 2000000 in
theorem insNNone (p : Option Addr) (cap : Nat) (fv : Value) (w : World) :
    Calls Tryz.prog 140 #[.slice p 0 cap, .int .i64 0, .int .i64 0, fv] w fun e w' => e = .returned (.tuple #[]) ∧ w' = w := by
  go_enter Tryz.func140, Tryz.ntmps140
  go_wp2
  refine wp_loop_rounds 1 ?_
  rw [rounds_succ]
  go_wp2
  go_end0
  exact ⟨rfl, rfl⟩
set_option maxRecDepth 100000 in
set_option maxHeartbeats 2000000 in
theorem pdqNNone (p : Option Addr) (cap : Nat) (lim : Int) (fv : Value) (w : World) :
    Calls Tryz.prog 125 #[.slice p 0 cap, .int .i64 0, .int .i64 0, .int .i64 lim, fv] w fun e w' => e = .returned (.tuple #[]) ∧ w' = w := by
  go_enter Tryz.func125, Tryz.ntmps125
  go_wp2
  refine wp_loop_rounds 1 ?_
  rw [rounds_succ]
  go_wp2_with (go_at_call 140; refine (insNNone _ _ _ _).mono ?_; rintro e w' ⟨rfl, rfl⟩)
  (try simp only [Exit.inBlock, Exit.then]); refine bodyPost_ret (results_none rfl _ _ _) rfl ?_
  exact ⟨rfl, rfl⟩
set_option maxRecDepth 100000 in
set_option maxHeartbeats 2000000 in
theorem sortNNone (p : Option Addr) (cap : Nat) (fv : Value) (w : World) :
    Calls Tryz.prog 99 #[.slice p 0 cap, fv] w fun e w' => e = .returned (.tuple #[]) ∧ w' = w := by
  have hl : ∀ W, Calls Tryz.prog 126 #[.int .u64 0] W fun e w' => e = .returned (.int .i64 (Lib.bitLen 0 : Nat)) ∧ w' = W := fun W => by
    have h := Any.bits_Len (SlLaysF0.n15.bits (P := Tryz.prog) (ρ := sortFN_ren) { sortFN with }) 0 W (by omega) (by omega)
    exact h
  go_enter Tryz.func99, Tryz.ntmps99
  go_wp2_with (first | (go_at_call 126; refine (hl _).mono ?_; rintro e w' ⟨rfl, rfl⟩) | (go_at_call 125; refine (pdqNNone _ _ _ _ _).mono ?_; rintro e w' ⟨rfl, rfl⟩))
  go_end0
  exact ⟨rfl, rfl⟩
theorem sortN (R : Nat → Prop) (v : Value) (l : List PNode) (ob : Option Nat) (w : World) (hown : OwnL w 89 3 (RNode R w) v l ob) (hR : ∀ g, ob = some g → ¬ R g) (hlen : l.length ≤ 65536) :
    Calls Tryz.prog 99 #[v, .func (.func 100) #[] #[]] w fun e w' => e = .returned (.tuple #[]) ∧ ∃ L, L.Perm l ∧ L.Pairwise (fun a b => a.id ≤ b.id) ∧ OwnL w' 89 3 (RNode R w') v L ob ∧ Mod (fun b => ob = some b) w w' := by
  by_cases h0 : l.length = 0
  · have e0 := List.eq_nil_of_length_eq_zero h0
    subst e0
    obtain ⟨a, c, rfl⟩ : ∃ a c, v = .slice a 0 c := by obtain ⟨_, _, _, h⟩ := hown; obtain ⟨oa, cap, h, _⟩ := h.isSlice; exact ⟨oa, cap, h⟩
    refine (sortNNone a c _ w).mono ?_
    rintro e w' ⟨rfl, hw⟩
    subst hw
    exact ⟨rfl, [], List.Perm.nil, List.Pairwise.nil, hown, Mod.rfl' _ _⟩
  · obtain ⟨rows, hr1, hr2, hr3⟩ := hown
    rcases hr3.2 with ⟨_, _, h, _⟩ | ⟨g, cap, cur, rfl, hob, hgb, k1, k2, k3, k4⟩
    · exact absurd h h0
    subst hob
    obtain ⟨ds, d1, d2, d3⟩ := rowsN (S := R) (w := w) hr1 (fun k x r hx hr => (hr2 k x r hx hr).1)
    have hdl : ds.length = l.length := by rw [← d1, List.length_map]
    have hH : HoldsK NRow.cs 3 w g 0 ds.toArray := holdsRow NRow.cs 3 (by omega) (fun _ => rfl) hgb (by rw [hdl, d2]; exact k4)
    have hgl : g < w.heap.size := blk_lt hgb
    have hcmp : CmpLays Tryz.prog 100 #[] NRow.cs 3 (cmpBy NRow.id) g 0 ds.toArray.size w := fun m os dk _ x y => (againNCmp x y _).mono fun e w' h => h
    have h := AnyQ.slices_SortFunc sortFN 3 Tryz.isAgg89 Tryz.sizeOf89 NRow.cs (fun _ => rfl) NRow.one (cmpBy NRow.id) (swoBy NRow.id) 100 #[] g 0 cap ds.toArray w (enters_of Tryz.func100 (by kernel_rfl) rfl) hcmp hH hgl (by simp; omega)
    have e0 : ds.toArray.size = l.length := by simpa using hdl
    rw [e0] at h
    refine h.mono ?_
    rintro e w' ⟨rfl, d', n, os, hp, hs, rfl⟩
    rw [← e0] at hp hs
    have hsz : d'.size = ds.toArray.size := hp.1
    obtain ⟨p1, p2⟩ := sortedBy NRow.id hp hs
    obtain ⟨cur', c1, c2⟩ := sortedBlk NRow.cs 3 (w := w) (g := g) (n := n) (d := d') (os := os) hgb
    have hH' := holdsK_sortWorldK_c NRow.cs 3 w g 0 ds.toArray d' n os hH hgl hsz
    have ht := rowHeld NRow.cs 3 (fun _ => rfl) c1 hH'
    have hm : Mod (fun b => some g = some b) w (sortWorldK NRow.cs 3 w g 0 n d' os) := sortedMod NRow.cs 3
    have hdl' : d'.size = l.length := hsz.trans e0
    refine ⟨rfl, d'.toList.map (·.1), ?_, ?_, ⟨d'.toList.map NRow.cs, by simp, fun k x r hx hr => ?_, ?_⟩, hm⟩
    · have h2 := p1.map (fun d : NRow => d.1)
      rw [← d1]
      exact h2
    · rw [List.pairwise_map]
      exact p2
    · rw [List.getElem?_map] at hx hr
      obtain ⟨q, hq, rfl⟩ := Option.map_eq_some_iff.1 hx
      rw [hq] at hr
      simp only [Option.map_some, Option.some.injEq] at hr
      subst hr
      have hmem : q ∈ ds := by
        have := p1.mem_iff.1 (List.mem_of_getElem? hq)
        simpa using this
      exact ⟨⟨_, rfl, (d3 q hmem).mod hm (fun b hb hh => hR b hh hb)⟩, rfl⟩
    · refine ⟨by rw [flatten_len _ 3 (by intro r hr; obtain ⟨q, -, rfl⟩ := List.mem_map.1 hr; rfl)]; simp, .inr ⟨g, cap, cur', ?_, rfl, c1, ?_, k2, by rw [c2]; exact k3, ?_⟩⟩
      · simp [hdl']
      · simpa [hdl'] using k1
      · rw [← ht]
        simp

abbrev ERow := PEdge × Option Addr × Nat × Nat
def ERow.cs (r : ERow) : List Value := [.int .i64 r.1.id, .string r.1.typ, .int .i64 r.1.from_, .int .i64 r.1.to_, .slice r.2.1 r.2.2.1 r.2.2.2]
def ERow.id (r : ERow) : Int := r.1.id
theorem ERow.one (r : ERow) : ∀ u ∈ ERow.cs r, u.oneCell' = true := by
  intro u hu
  simp only [ERow.cs, List.mem_cons, List.not_mem_nil, or_false] at hu
  rcases hu with rfl | rfl | rfl | rfl | rfl <;> rfl
theorem rowsE {S : Nat → Prop} {w : World} : ∀ {l : List PEdge} {rows : List (List Value)}, rows.length = l.length → (∀ (k : Nat) x r, l[k]? = some x → rows[k]? = some r → REdge S w x r) →
    ∃ ds : List ERow, ds.map (·.1) = l ∧ ds.map ERow.cs = rows ∧ ∀ d ∈ ds, PropsR S w (.slice d.2.1 d.2.2.1 d.2.2.2) d.1.props
  | [], [], _, _ => ⟨[], rfl, rfl, by simp⟩
  | [], _ :: _, h, _ => by simp at h
  | _ :: _, [], h, _ => by simp at h
  | x :: l, r :: rows, h, hR => by
    obtain ⟨ds, h1, h2, h3⟩ := rowsE (l := l) (rows := rows) (by simpa using h) (fun k y s hy hs => hR (k + 1) y s (by simpa using hy) (by simpa using hs))
    obtain ⟨pv, rfl, hp⟩ := hR 0 x r rfl rfl
    obtain ⟨a, c, rfl⟩ := hp.isSlice
    refine ⟨(x, a, x.props.length, c) :: ds, by simp [h1], by simp [h2, ERow.cs], fun d hd => ?_⟩
    rcases List.mem_cons.1 hd with rfl | hd
    · exact hp
    · exact h3 d hd
set_option maxRecDepth 100000 in
set_option maxHeartbeats 1000000 in
theorem againECmp (x y : ERow) (w : World) : Calls Tryz.prog 103 #[.agg ((ERow.cs x).toArray), .agg ((ERow.cs y).toArray)] w fun e w' => e = .returned (.int .i64 (cmpBy ERow.id x y)) ∧ LaidU w w' := by
  show Calls Tryz.prog 103 #[.agg #[.int .i64 x.1.id, .string x.1.typ, .int .i64 x.1.from_, .int .i64 x.1.to_, .slice x.2.1 x.2.2.1 x.2.2.2], .agg #[.int .i64 y.1.id, .string y.1.typ, .int .i64 y.1.from_, .int .i64 y.1.to_, .slice y.2.1 y.2.2.1 y.2.2.2]] w _
  have HL := Lib.hid (LaidU.alloc2 w)
  have HC := Lib.hid (show cmpBy ERow.id x y = cmpZ x.1.id y.1.id from rfl)
  obtain ⟨x, xa, xn, xc⟩ := x
  obtain ⟨y, ya, yn, yc⟩ := y
  dsimp only at HC ⊢
  go_enter Tryz.func103, Tryz.ntmps103
  go_wp2_with fail
  refine (cmpCompareL x.id y.id _).mono ?_
  rintro e w' ⟨rfl, rfl⟩
  go_wp2
  go_ret
  exact ⟨by rw [HC.out]; rfl, HL.out _ _⟩
set_option maxRecDepth 100000 in
set_option maxHeartbeats 2000000 in
theorem insENone (p : Option Addr) (cap : Nat) (fv : Value) (w : World) :
    Calls Tryz.prog 150 #[.slice p 0 cap, .int .i64 0, .int .i64 0, fv] w fun e w' => e = .returned (.tuple #[]) ∧ w' = w := by
  go_enter Tryz.func150, Tryz.ntmps150
  go_wp2
  refine wp_loop_rounds 1 ?_
  rw [rounds_succ]
  go_wp2
  go_end0
  exact ⟨rfl, rfl⟩
set_option maxRecDepth 100000 in
set_option maxHeartbeats 2000000 in
theorem pdqENone (p : Option Addr) (cap : Nat) (lim : Int) (fv : Value) (w : World) :
    Calls Tryz.prog 128 #[.slice p 0 cap, .int .i64 0, .int .i64 0, .int .i64 lim, fv] w fun e w' => e = .returned (.tuple #[]) ∧ w' = w := by
  go_enter Tryz.func128, Tryz.ntmps128
  go_wp2
  refine wp_loop_rounds 1 ?_
  rw [rounds_succ]
  go_wp2_with (go_at_call 150; refine (insENone _ _ _ _).mono ?_; rintro e w' ⟨rfl, rfl⟩)
  (try simp only [Exit.inBlock, Exit.then]); refine bodyPost_ret (results_none rfl _ _ _) rfl ?_
  exact ⟨rfl, rfl⟩
set_option maxRecDepth 100000 in
set_option maxHeartbeats 2000000 in
theorem sortENone (p : Option Addr) (cap : Nat) (fv : Value) (w : World) :
    Calls Tryz.prog 102 #[.slice p 0 cap, fv] w fun e w' => e = .returned (.tuple #[]) ∧ w' = w := by
  have hl : ∀ W, Calls Tryz.prog 126 #[.int .u64 0] W fun e w' => e = .returned (.int .i64 (Lib.bitLen 0 : Nat)) ∧ w' = W := fun W => by
    have h := Any.bits_Len (SlLaysF0.n15.bits (P := Tryz.prog) (ρ := sortFE_ren) { sortFE with }) 0 W (by omega) (by omega)
    exact h
  go_enter Tryz.func102, Tryz.ntmps102
  go_wp2_with (first | (go_at_call 126; refine (hl _).mono ?_; rintro e w' ⟨rfl, rfl⟩) | (go_at_call 128; refine (pdqENone _ _ _ _ _).mono ?_; rintro e w' ⟨rfl, rfl⟩))
  go_end0
  exact ⟨rfl, rfl⟩
theorem sortE (R : Nat → Prop) (v : Value) (l : List PEdge) (ob : Option Nat) (w : World) (hown : OwnL w 91 5 (REdge R w) v l ob) (hR : ∀ g, ob = some g → ¬ R g) (hlen : l.length ≤ 65536) :
    Calls Tryz.prog 102 #[v, .func (.func 103) #[] #[]] w fun e w' => e = .returned (.tuple #[]) ∧ ∃ L, L.Perm l ∧ L.Pairwise (fun a b => a.id ≤ b.id) ∧ OwnL w' 91 5 (REdge R w') v L ob ∧ Mod (fun b => ob = some b) w w' := by
  by_cases h0 : l.length = 0
  · have e0 := List.eq_nil_of_length_eq_zero h0
    subst e0
    obtain ⟨a, c, rfl⟩ : ∃ a c, v = .slice a 0 c := by obtain ⟨_, _, _, h⟩ := hown; obtain ⟨oa, cap, h, _⟩ := h.isSlice; exact ⟨oa, cap, h⟩
    refine (sortENone a c _ w).mono ?_
    rintro e w' ⟨rfl, hw⟩
    subst hw
    exact ⟨rfl, [], List.Perm.nil, List.Pairwise.nil, hown, Mod.rfl' _ _⟩
  · obtain ⟨rows, hr1, hr2, hr3⟩ := hown
    rcases hr3.2 with ⟨_, _, h, _⟩ | ⟨g, cap, cur, rfl, hob, hgb, k1, k2, k3, k4⟩
    · exact absurd h h0
    subst hob
    obtain ⟨ds, d1, d2, d3⟩ := rowsE (S := R) (w := w) hr1 (fun k x r hx hr => (hr2 k x r hx hr).1)
    have hdl : ds.length = l.length := by rw [← d1, List.length_map]
    have hH : HoldsK ERow.cs 5 w g 0 ds.toArray := holdsRow ERow.cs 5 (by omega) (fun _ => rfl) hgb (by rw [hdl, d2]; exact k4)
    have hgl : g < w.heap.size := blk_lt hgb
    have hcmp : CmpLays Tryz.prog 103 #[] ERow.cs 5 (cmpBy ERow.id) g 0 ds.toArray.size w := fun m os dk _ x y => (againECmp x y _).mono fun e w' h => h
    have h := AnyQ.slices_SortFunc sortFE 5 Tryz.isAgg91 Tryz.sizeOf91 ERow.cs (fun _ => rfl) ERow.one (cmpBy ERow.id) (swoBy ERow.id) 103 #[] g 0 cap ds.toArray w (enters_of Tryz.func103 (by kernel_rfl) rfl) hcmp hH hgl (by simp; omega)
    have e0 : ds.toArray.size = l.length := by simpa using hdl
    rw [e0] at h
    refine h.mono ?_
    rintro e w' ⟨rfl, d', n, os, hp, hs, rfl⟩
    rw [← e0] at hp hs
    have hsz : d'.size = ds.toArray.size := hp.1
    obtain ⟨p1, p2⟩ := sortedBy ERow.id hp hs
    obtain ⟨cur', c1, c2⟩ := sortedBlk ERow.cs 5 (w := w) (g := g) (n := n) (d := d') (os := os) hgb
    have hH' := holdsK_sortWorldK_c ERow.cs 5 w g 0 ds.toArray d' n os hH hgl hsz
    have ht := rowHeld ERow.cs 5 (fun _ => rfl) c1 hH'
    have hm : Mod (fun b => some g = some b) w (sortWorldK ERow.cs 5 w g 0 n d' os) := sortedMod ERow.cs 5
    have hdl' : d'.size = l.length := hsz.trans e0
    refine ⟨rfl, d'.toList.map (·.1), ?_, ?_, ⟨d'.toList.map ERow.cs, by simp, fun k x r hx hr => ?_, ?_⟩, hm⟩
    · have h2 := p1.map (fun d : ERow => d.1)
      rw [← d1]
      exact h2
    · rw [List.pairwise_map]
      exact p2
    · rw [List.getElem?_map] at hx hr
      obtain ⟨q, hq, rfl⟩ := Option.map_eq_some_iff.1 hx
      rw [hq] at hr
      simp only [Option.map_some, Option.some.injEq] at hr
      subst hr
      have hmem : q ∈ ds := by
        have := p1.mem_iff.1 (List.mem_of_getElem? hq)
        simpa using this
      exact ⟨⟨_, rfl, (d3 q hmem).mod hm (fun b hb hh => hR b hh hb)⟩, rfl⟩
    · refine ⟨by rw [flatten_len _ 5 (by intro r hr; obtain ⟨q, -, rfl⟩ := List.mem_map.1 hr; rfl)]; simp, .inr ⟨g, cap, cur', ?_, rfl, c1, ?_, k2, by rw [c2]; exact k3, ?_⟩⟩
      · simp [hdl']
      · simpa [hdl'] using k1
      · rw [← ht]
        simp
end Go.Hg

namespace Go.Hg
open Go.RowKit Go.Proofs

theorem RNode.cut {S : Nat → Prop} {w : World} {x : PNode} {r : List Value} (h : RNode S w x r) : RNode (fun b => S b ∧ b < w.heap.size) w x r := by
  obtain ⟨pv, hr, hp⟩ := h; exact ⟨pv, hr, hp.cut⟩
theorem REdge.cut {S : Nat → Prop} {w : World} {x : PEdge} {r : List Value} (h : REdge S w x r) : REdge (fun b => S b ∧ b < w.heap.size) w x r := by
  obtain ⟨pv, hr, hp⟩ := h; exact ⟨pv, hr, hp.cut⟩
theorem graph_close {T : TypeId} {w2 w3 w4 w5 : World} {B : Nat} {nv ev : Value} {nodes : List PNode} {edges : List PEdge} {next : Int} {on oe : Option Nat} (g23 : Grow w2 w3) (g34 : Grow w3 w4)
    (hn : OwnL w3 89 3 (RNode (fun b => w2.heap.size ≤ b ∧ on ≠ some b) w3) nv nodes on) (hon : ∀ g, on = some g → w2.heap.size ≤ g)
    (he : OwnL w4 91 5 (REdge (fun b => w3.heap.size ≤ b ∧ oe ≠ some b) w4) ev edges oe) (hoe : ∀ g, oe = some g → w3.heap.size ≤ g)
    (m : Mod (fun b => b = B) w4 w5) (hb : w5.heap[B]? = some (.cells #[nv, ev, .int .i64 next] T (0, 0))) (hB : B < w2.heap.size ∨ w4.heap.size ≤ B) :
    GraphOk T (fun b => b = B ∨ w2.heap.size ≤ b) w5 B ⟨nodes, edges, next⟩ := by
  have hs1 := g23.size
  have hs2 := g34.size
  have hs3 := m.size
  have hnl := hn.lt
  have hel := he.lt
  have hBn : ∀ b, w2.heap.size ≤ b → b < w4.heap.size → b ≠ B := fun b h1 h2 e => by omega
  refine ⟨nv, ev, fun b => (w2.heap.size ≤ b ∧ on ≠ some b ∧ b < w3.heap.size) ∨ (w3.heap.size ≤ b ∧ oe ≠ some b ∧ b < w4.heap.size), on, oe, hb, .inl rfl, ?_, ?_, ?_, ?_, ?_, ?_⟩
  · intro h
    rcases h with h | h <;> omega
  · intro b h
    rcases h with h | h
    · exact ⟨.inr h.1, by omega⟩
    · exact ⟨.inr (by omega), by omega⟩
  · intro g hg
    refine ⟨.inr (hon g hg), fun h => ?_⟩
    rcases h with h | h
    · exact h.2.1 hg
    · have := hnl g hg; omega
  · intro g hg
    refine ⟨.inr (by have := hoe g hg; omega), fun h => ?_⟩
    rcases h with h | h
    · have := hoe g hg; omega
    · exact h.2.1 hg
  · have h1 := hn.keep (R' := RNode (fun b => (w2.heap.size ≤ b ∧ on ≠ some b) ∧ b < w3.heap.size) w3) (w' := w3) (fun _ _ => rfl) (fun x r _ h => h.cut)
    have m35 : Mod (fun b => b = B) w3 w5 := (Mod.of_grow g34).step m
    refine h1.keep (fun g hg => m35.block g (hnl g hg) (hBn g (hon g hg) (by have := hnl g hg; omega))) (fun x r _ h => (h.mod m35 (fun b hb => hBn b hb.1.1 (by omega))).sub (fun b hb => .inl ⟨hb.1.1, hb.1.2, hb.2⟩))
  · have h1 := he.keep (R' := REdge (fun b => (w3.heap.size ≤ b ∧ oe ≠ some b) ∧ b < w4.heap.size) w4) (w' := w4) (fun _ _ => rfl) (fun x r _ h => h.cut)
    refine h1.keep (fun g hg => m.block g (hel g hg) (hBn g (by have := hoe g hg; omega) (hel g hg))) (fun x r _ h => (h.mod m (fun b hb => hBn b (by have := hb.1.1; omega) hb.2)).sub (fun b hb => .inr ⟨hb.1.1, hb.1.2, hb.2⟩))

def LoadPost (T : TypeId) (B : Nat) (L : PGraph) (w : World) (e : Ending) (w' : World) : Prop :=
  (goodG L = true ∧ e = .returned (.int .i64 0) ∧ GraphOk T (fun b => b = B ∨ w.heap.size ≤ b) w' B L ∧ Mod (fun b => b = B) w w') ∨ (goodG L = false ∧ e = .returned (.int .i64 11) ∧ Grow w w')

set_option maxRecDepth 100000 in
set_option maxHeartbeats 2000000 in
theorem graphLoad (S : Nat → Prop) (B : Nat) (cs : Array Value) (nv ev : Value) (nodes : List PNode) (edges : List PEdge) (next : Int) (w : World) (hcs : cs.size = 3) (hBb : w.heap[B]? = some (.cells cs 101 (0, 0))) (hn : NodesR S w nv nodes) (he : EdgesR S w ev edges)
    (hn40 : nodes.length ≤ 1099511627776) (he40 : edges.length ≤ 1099511627776) :
    Calls Tryz.prog 96 #[.pointer (some ⟨B, 0, none⟩), nv, ev, .int .i64 next] w (LoadPost 101 B ⟨nodes, edges, next⟩ w) := by
  have HN := Lib.hid hn; have HE := Lib.hid he; have HN40 := Lib.hid hn40; have HE40 := Lib.hid he40; have HB := Lib.hid hBb
  obtain ⟨na, nc, rfl, _⟩ := SlR.open hn
  obtain ⟨ea, ec, rfl, _⟩ := SlR.open he
  have hBl := blk_lt hBb
  have HW := Lib.hid (show ∀ o1, Grow w (w.alloc o1) from fun o1 => (Grow.rfl' w).allocd o1)
  have HRD := Lib.hid (show GraphRd 101 S (w.alloc (.cells #[.slice na nodes.length nc, .slice ea edges.length ec, .int .i64 next] 101)) w.heap.size ⟨nodes, edges, next⟩ from
    ⟨_, _, heap_alloc_new w _, HN.out.grow (HW.out _), HE.out.grow (HW.out _)⟩)
  obtain ⟨v0, v1, v2, rfl⟩ : ∃ a b c, cs = #[a, b, c] := by
    match cs, hcs with
    | ⟨[a, b, c]⟩, _ => exact ⟨a, b, c, rfl⟩
  clear hn he hn40 he40 hBb hcs
  go_enter Tryz.func96, Tryz.ntmps96
  go_wp2_with fail
  refine (graphGood S _ _ _ HRD.out HN40.out HE40.out).mono ?_
  rintro e w2 ⟨rfl, hg2⟩
  have HG2 := Lib.hid ((HW.out _).step hg2); have HA2 := Lib.hid hg2
  clear hg2
  cases hgd : goodG ⟨nodes, edges, next⟩
  · have HGD := Lib.hid hgd; clear hgd
    go_wp2
    go_ret
    exact .inr ⟨HGD.out, rfl, HG2.out⟩
  · have HGD := Lib.hid hgd; clear hgd
    have hP := goodG_inv HGD.out
    have HPN := Lib.hid (show ∀ x ∈ nodes, x.props.length ≤ 1099511627776 from fun x hx => by have := (hP.nodesB x hx).2.2; omega)
    have HPE := Lib.hid (show ∀ x ∈ edges, x.props.length ≤ 1099511627776 from fun x hx => by have := (hP.edgesB x hx).2.2; omega)
    clear hP
    go_wp2_with fail
    refine (graphNodes S _ ⟨nodes, edges, next⟩ _ (HRD.out.grow HA2.out) HN40.out HPN.out).mono ?_
    rintro e w3 ⟨v3, on, rfl, hon, hon2, hg3⟩
    have HON := Lib.hid hon; have HON2 := Lib.hid hon2; have HG3 := Lib.hid hg3
    obtain ⟨a3, c3, rfl⟩ : ∃ a c, v3 = .slice a nodes.length c := by obtain ⟨_, _, _, h⟩ := hon; obtain ⟨oa, cap, h, _⟩ := h.isSlice; exact ⟨oa, cap, h⟩
    clear hon hon2 hg3
    go_wp2_with fail
    refine (graphEdges S _ ⟨nodes, edges, next⟩ _ (HRD.out.grow (HA2.out.step HG3.out)) HE40.out HPE.out).mono ?_
    rintro e w4 ⟨v4, oe, rfl, hoe, hoe2, hg4⟩
    have HOE := Lib.hid hoe; have HOE2 := Lib.hid hoe2; have HG4 := Lib.hid hg4
    obtain ⟨a4, c4, rfl⟩ : ∃ a c, v4 = .slice a edges.length c := by obtain ⟨_, _, _, h⟩ := hoe; obtain ⟨oa, cap, h, _⟩ := h.isSlice; exact ⟨oa, cap, h⟩
    have hb4 := (((HG2.out.step HG3.out).step hg4).heapEq hBl).trans HB.out
    have HB4 := Lib.hid hb4
    have hl4 := blk_lt hb4
    have y0 : w4.cell? ⟨B, 0, none⟩ = some v0 := by rw [blk_cell hb4]; rfl
    have y1 : w4.cell? ⟨B, 1, none⟩ = some v1 := by rw [blk_cell hb4]; rfl
    have y2 : w4.cell? ⟨B, 2, none⟩ = some v2 := by rw [blk_cell hb4]; rfl
    have f0 := blk_free hb4 0
    have f1 := blk_free hb4 1
    have f2 := blk_free hb4 2
    clear hoe hoe2 hg4 hb4
    go_wp2
    go_ret
    have m5 : Mod (fun b => b = B) w4 (((w4.setCell ⟨B, 0, none⟩ (.slice a3 nodes.length c3)).setCell ⟨B, 1, none⟩ (.slice a4 edges.length c4)).setCell ⟨B, 2, none⟩ (.int .i64 next)) :=
      (((Mod.rfl' (fun b => b = B) w4).setd (p := ⟨B, 0, none⟩) (.inl rfl) _).setd (p := ⟨B, 1, none⟩) (.inl rfl) _).setd (p := ⟨B, 2, none⟩) (.inl rfl) _
    have hb5 : (((w4.setCell ⟨B, 0, none⟩ (.slice a3 nodes.length c3)).setCell ⟨B, 1, none⟩ (.slice a4 edges.length c4)).setCell ⟨B, 2, none⟩ (.int .i64 next)).heap[B]? = some (.cells #[.slice a3 nodes.length c3, .slice a4 edges.length c4, .int .i64 next] 101 (0, 0)) :=
      heap_setCell_same _ B 2 _ _ _ (heap_setCell_same _ B 1 _ _ _ (heap_setCell_same w4 B 0 _ _ _ HB4.out))
    have hcl := graph_close (T := 101) HG3.out HG4.out HON.out HON2.out HOE.out HOE2.out m5 hb5 (.inl (Nat.lt_of_lt_of_le hBl HG2.out.size))
    exact .inl ⟨HGD.out, rfl, hcl.sub (fun b hb => hb.imp id (fun h => Nat.le_trans HG2.out.size h)), (Mod.of_grow ((HG2.out.step HG3.out).step HG4.out)).step m5⟩
end Go.Hg

namespace Go.Hg
open Go.RowKit Go.Proofs

set_option maxHeartbeats 400000 in
theorem gone1 (x : PNode) (pv : Value) (ib : Nat) (id : Int) (w : World) (S : Nat → Prop) (hp : PropsR S w pv x.props) (hc : w.cell? ⟨ib, 0, none⟩ = some (.int .i64 id)) :
    Calls Tryz.prog 93 #[x.args pv, .pointer (some ⟨ib, 0, none⟩)] w fun e w' => e = .returned (.bool (decide (x.id = id))) ∧ Grow w w' := by
  obtain ⟨_, _, rfl⟩ := hp.isSlice
  have hlt := cell_lt hc
  have hc2 : ∀ o, (w.alloc o).cell? ⟨ib, 0, none⟩ = some (.int .i64 id) := fun o => ((Grow.rfl' w).allocd o).cell (p := ⟨ib, 0, none⟩) hlt |>.trans hc
  have HG := Lib.hid (show ∀ o1, Grow w (w.alloc o1) from fun o1 => (Grow.rfl' w).allocd o1)
  clear hp hc
  go_enter Tryz.func93, Tryz.ntmps93
  go_wp2
  go_ret
  exact ⟨by by_cases h : x.id = id <;> simp [h], HG.out _⟩
set_option maxHeartbeats 400000 in
theorem gone2 (x : PEdge) (pv : Value) (ib : Nat) (id : Int) (w : World) (S : Nat → Prop) (hp : PropsR S w pv x.props) (hc : w.cell? ⟨ib, 0, none⟩ = some (.int .i64 id)) :
    Calls Tryz.prog 95 #[x.args pv, .pointer (some ⟨ib, 0, none⟩)] w fun e w' => e = .returned (.bool (decide (x.id = id))) ∧ Grow w w' := by
  obtain ⟨_, _, rfl⟩ := hp.isSlice
  have hlt := cell_lt hc
  have hc2 : ∀ o, (w.alloc o).cell? ⟨ib, 0, none⟩ = some (.int .i64 id) := fun o => ((Grow.rfl' w).allocd o).cell (p := ⟨ib, 0, none⟩) hlt |>.trans hc
  have HG := Lib.hid (show ∀ o1, Grow w (w.alloc o1) from fun o1 => (Grow.rfl' w).allocd o1)
  clear hp hc
  go_enter Tryz.func95, Tryz.ntmps95
  go_wp2
  go_ret
  exact ⟨by by_cases h : x.id = id <;> simp [h], HG.out _⟩
def goneG (G : PGraph) (id : Int) : PGraph := ⟨G.nodes.filter fun x => !decide (x.id = id), G.edges.filter fun x => !decide (x.id = id), id⟩
theorem blk_mod {F : Nat → Prop} {w w' : World} {b : Nat} {cs : Array Value} {T : TypeId} (h : w.heap[b]? = some (.cells cs T (0, 0))) (m : Mod F w w') (hn : ¬ F b) : w'.heap[b]? = some (.cells cs T (0, 0)) := (m.block b (blk_lt h) hn).trans h

set_option maxRecDepth 100000 in
set_option maxHeartbeats 1000000 in
theorem undoGone (S : Nat → Prop) (B : Nat) (G : PGraph) (id : Int) (w : World) (h : GraphOk 101 S w B G) (hG : GInv G) (hgood : goodG (goneG G id) = true) :
    Calls Tryz.prog 63 #[.pointer (some ⟨B, 0, none⟩), .int .i64 id] w fun e w' => e = .returned (.tuple #[]) ∧ GraphOk 101 (fun b => b = B ∨ w.heap.size ≤ b) w' B (goneG G id) ∧ Mod (fun b => b = B) w w' := by
  have HRD := Lib.hid h.rd
  obtain ⟨nv0, ev0, _, _, _, hblk0, _⟩ := h
  have HBLK := Lib.hid hblk0
  have hB := blk_lt hblk0
  have HGD := Lib.hid hgood
  have HPN := Lib.hid (show ∀ x ∈ G.nodes, x.props.length ≤ 1099511627776 from fun x hx => by have := (hG.nodesB x hx).2.2; omega)
  have HPE := Lib.hid (show ∀ x ∈ G.edges, x.props.length ≤ 1099511627776 from fun x hx => by have := (hG.edgesB x hx).2.2; omega)
  have HLN := Lib.hid hG.items
  have HW := Lib.hid (show ∀ o1, Grow w (w.alloc o1) from fun o1 => (Grow.rfl' w).allocd o1)
  have HID := Lib.hid (heap_alloc_new w (.cells #[.int .i64 id] 2))
  clear hG hgood hblk0
  go_enter Tryz.func63, Tryz.ntmps63
  go_wp2_with fail
  refine (graphNodes S B G _ (HRD.out.grow (HW.out _)) (by have := HLN.out; omega) HPN.out).mono ?_
  rintro e w2 ⟨v2, ob2, rfl, hown2, hob2, hg2⟩
  have HOB2 := Lib.hid hob2; have HG02 := Lib.hid ((HW.out _).step hg2); have HG2 := Lib.hid hg2
  have HID2 := Lib.hid ((hg2.heapEq (by simp)).trans HID.out)
  obtain ⟨a2, c2, rfl⟩ : ∃ a c, v2 = .slice a G.nodes.length c := by obtain ⟨_, _, _, h⟩ := hown2; obtain ⟨oa, cap, h, _⟩ := h.isSlice; exact ⟨oa, cap, h⟩
  have HOWN2 := Lib.hid hown2
  clear hown2 hob2 hg2
  go_wp2_with fail
  refine (deleteNodes _ _ G.nodes ob2 93 ⟨w.heap.size, 0, none⟩ (fun x => decide (x.id = id)) _ HOWN2.out (fun g hg h => h.2 hg) ⟨fun args w => enterF Tryz.func93 (by kernel_rfl) rfl args w, fun S x pv w' hm hp => gone1 x pv _ id w' S hp ((blk_cell (blk_mod HID2.out hm (fun hh => by have := HOB2.out _ hh; simp at this; omega)) 0).trans rfl)⟩ (by have := HLN.out; omega)).mono ?_
  rintro e w3 ⟨v3, rfl, hown3, hm3⟩
  have hg3 : Grow w w3 := HG02.out.modd hm3 (fun x hx => by have := HOB2.out x hx; simp at this; omega)
  have HG3 := Lib.hid hg3
  have HID3 := Lib.hid (blk_mod HID2.out hm3 (fun hh => by have := HOB2.out _ hh; simp at this; omega))
  have HNR := Lib.hid (hown3.toSl (S := fun b => w.heap.size ≤ b) (fun g hg => by have := HOB2.out g hg; simp at this; omega))
  obtain ⟨a3, c3, rfl⟩ : ∃ a c, v3 = .slice a (G.nodes.filter fun x => !decide (x.id = id)).length c := by obtain ⟨_, _, _, h⟩ := hown3; obtain ⟨oa, cap, h, _⟩ := h.isSlice; exact ⟨oa, cap, h⟩
  clear hown3 hm3 hg3
  go_wp2_with fail
  refine (graphEdges S B G _ (HRD.out.grow HG3.out) (by have := HLN.out; omega) HPE.out).mono ?_
  rintro e w4 ⟨v4, ob4, rfl, hown4, hob4, hg4⟩
  have HOB4 := Lib.hid hob4; have HG04 := Lib.hid (HG3.out.step hg4); have HG4 := Lib.hid hg4
  have HID4 := Lib.hid ((hg4.heapEq (blk_lt HID3.out)).trans HID3.out)
  obtain ⟨a4, c4, rfl⟩ : ∃ a c, v4 = .slice a G.edges.length c := by obtain ⟨_, _, _, h⟩ := hown4; obtain ⟨oa, cap, h, _⟩ := h.isSlice; exact ⟨oa, cap, h⟩
  have HOWN4 := Lib.hid hown4
  have hs3 : w.heap.size < w3.heap.size := blk_lt HID3.out
  clear hown4 hob4 hg4
  go_wp2_with fail
  refine (deleteEdges _ _ G.edges ob4 95 ⟨w.heap.size, 0, none⟩ (fun x => decide (x.id = id)) _ HOWN4.out (fun g hg h => h.2 hg) ⟨fun args w => enterF Tryz.func95 (by kernel_rfl) rfl args w, fun S x pv w' hm hp => gone2 x pv _ id w' S hp ((blk_cell (blk_mod HID4.out hm (fun hh => by have := HOB4.out _ hh; omega)) 0).trans rfl)⟩ (by have := HLN.out; omega)).mono ?_
  rintro e w5 ⟨v5, rfl, hown5, hm5⟩
  have hg5 : Grow w w5 := HG04.out.modd hm5 (fun x hx => by have := HOB4.out x hx; omega)
  have HG5 := Lib.hid hg5
  have h45 : Grow w3 w5 := HG4.out.modd hm5 (fun x hx => HOB4.out x hx)
  have i5 : w5.cell? ⟨w.heap.size, 0, none⟩ = some (.int .i64 id) := (blk_cell (blk_mod HID4.out hm5 (fun hh => by have := HOB4.out _ hh; omega)) 0).trans rfl
  have HNR5 := Lib.hid (show NodesR (fun _ => True) w5 (.slice a3 (G.nodes.filter fun x => !decide (x.id = id)).length c3) (G.nodes.filter fun x => !decide (x.id = id)) from
    NodesR.grow (SlR.sub HNR.out (fun _ _ => trivial) (fun x r _ hR => hR.sub (fun _ _ => trivial))) h45)
  have HER5 := Lib.hid (show EdgesR (fun _ => True) w5 v5 (G.edges.filter fun x => !decide (x.id = id)) from
    SlR.sub (hown5.toSl (S := fun _ => True) (fun _ _ => trivial)) (fun _ _ => trivial) (fun x r _ hR => hR.sub (fun _ _ => trivial)))
  obtain ⟨a5, c5, rfl⟩ : ∃ a c, v5 = .slice a (G.edges.filter fun x => !decide (x.id = id)).length c := by obtain ⟨_, _, _, h⟩ := hown5; obtain ⟨oa, cap, h, _⟩ := h.isSlice; exact ⟨oa, cap, h⟩
  have HB5 := Lib.hid ((HG5.out.heapEq hB).trans HBLK.out)
  have HLN2 := Lib.hid (show (G.nodes.filter fun x => !decide (x.id = id)).length ≤ 1099511627776 ∧ (G.edges.filter fun x => !decide (x.id = id)).length ≤ 1099511627776 from
    ⟨Nat.le_trans (List.length_filter_le _ _) (by have := HLN.out; omega), Nat.le_trans (List.length_filter_le _ _) (by have := HLN.out; omega)⟩)
  clear hown5 hm5 hg5 h45
  have HEQ := Lib.hid (show goneG G id = ⟨G.nodes.filter fun x => !decide (x.id = id), G.edges.filter fun x => !decide (x.id = id), id⟩ from rfl)
  generalize (G.nodes.filter fun x => !decide (x.id = id)) = nl at *
  generalize (G.edges.filter fun x => !decide (x.id = id)) = el at *
  go_wp2_with fail
  refine (graphLoad (fun _ => True) B #[nv0, ev0, .int .i64 G.next] _ _ nl el id _ rfl HB5.out HNR5.out HER5.out HLN2.out.1 HLN2.out.2).mono ?_
  rintro e w6 (⟨-, rfl, hok, hm6⟩ | ⟨hbad, -⟩)
  · go_wp2
    go_end0
    have hs5 := HG5.out.size
    rw [HEQ.out]
    exact ⟨rfl, hok.sub (fun b hb => hb.imp (fun x => x) (fun h => Nat.le_trans hs5 h)), (Mod.of_grow HG5.out).step hm6⟩
  · have h := HGD.out
    rw [HEQ.out, hbad] at h
    cases h
end Go.Hg

namespace Go.Hg
open Go.RowKit Go.Proofs

theorem joinRows {α : Type} {Q : α → List Value → Prop} {sz : Nat} {l m : List α} {r1 r2 : List (List Value)} (h1 : r1.length = l.length) (a : ∀ (k : Nat) x r, l[k]? = some x → r1[k]? = some r → Q x r ∧ r.length = sz)
    (h2 : r2.length = m.length) (b : ∀ (k : Nat) x r, m[k]? = some x → r2[k]? = some r → Q x r ∧ r.length = sz) :
    (r1 ++ r2).length = (l ++ m).length ∧ ∀ (k : Nat) x r, (l ++ m)[k]? = some x → (r1 ++ r2)[k]? = some r → Q x r ∧ r.length = sz := by
  refine ⟨by simp [h1, h2], fun k x r hx hr => ?_⟩
  by_cases hk : k < l.length
  · rw [List.getElem?_append_left hk] at hx
    rw [List.getElem?_append_left (by omega)] at hr
    exact a k x r hx hr
  · rw [List.getElem?_append_right (by omega)] at hx
    rw [List.getElem?_append_right (by omega), h1] at hr
    exact b _ x r hx hr
theorem oneN {S : Nat → Prop} {w : World} {l : List PNode} {rows : List (List Value)} (h1 : rows.length = l.length) (h : ∀ (k : Nat) x r, l[k]? = some x → rows[k]? = some r → RNode S w x r ∧ r.length = 3) : ∀ u ∈ rows.flatten, u.oneCell' = true := one_flat h1 h (fun _ _ h => h.one)
theorem oneE {S : Nat → Prop} {w : World} {l : List PEdge} {rows : List (List Value)} (h1 : rows.length = l.length) (h : ∀ (k : Nat) x r, l[k]? = some x → rows[k]? = some r → REdge S w x r ∧ r.length = 5) : ∀ u ∈ rows.flatten, u.oneCell' = true := one_flat h1 h (fun _ _ h => h.one)
theorem joinN {K : Nat → Prop} {w w2 w3 : World} {ob2 ob3 : Option Nat} {v3 : Value} {l m : List PNode} {r1 r2 : List (List Value)} (h1 : r1.length = l.length)
    (a : ∀ (k : Nat) x r, l[k]? = some x → r1[k]? = some r → RNode (fun b => w.heap.size ≤ b ∧ ob2 ≠ some b) w2 x r ∧ r.length = 3) (h2 : r2.length = m.length) (b : ∀ (k : Nat) x r, m[k]? = some x → r2[k]? = some r → RNode K w x r ∧ r.length = 3)
    (hob : ∀ g, ob2 = some g → w.heap.size ≤ g) (g : Grow w w2) (hm : Mod (fun k => ob2 = some k) w2 w3) (k1 : OwnS w3 89 3 v3 (l.length + m.length) (r1.flatten ++ r2.flatten) ob3) (k3 : ob3 = ob2 ∨ ∃ g, ob3 = some g ∧ w2.heap.size ≤ g) :
    OwnL w3 89 3 (RNode (fun b => (w.heap.size ≤ b ∨ K b) ∧ ob3 ≠ some b) w3) v3 (l ++ m) ob3 ∧ (∀ g, ob3 = some g → w.heap.size ≤ g) ∧ Grow w w3 := by
  have g3 : Grow w w3 := g.modd hm hob
  have hs := g.size
  have ho : ∀ g, ob3 = some g → w.heap.size ≤ g := fun g hg => by
    rcases k3 with h | ⟨g', h, hge⟩
    · exact hob g (h ▸ hg)
    · rw [h] at hg; cases hg; omega
  obtain ⟨c1, c2⟩ := joinRows (Q := RNode (fun b => (w.heap.size ≤ b ∨ K b) ∧ ob3 ≠ some b) w3) h1 (fun k x r hx hr => by
    obtain ⟨p, q⟩ := a k x r hx hr
    refine ⟨(p.cut.mod hm (fun b hb hh => hb.1.2 hh)).sub (fun b hb => ⟨.inl hb.1.1, fun hh => ?_⟩), q⟩
    rcases k3 with h | ⟨g', h, hge⟩
    · exact hb.1.2 (h ▸ hh)
    · rw [h] at hh; cases hh; have := hb.2; omega) h2 (fun k x r hx hr => by
    obtain ⟨p, q⟩ := b k x r hx hr
    refine ⟨(p.cut.mod (Mod.of_grow (F := fun _ => False) g3) (fun _ _ => id)).sub (fun b hb => ⟨.inr hb.1, fun hh => by have := ho b hh; have := hb.2; omega⟩), q⟩)
  refine ⟨⟨r1 ++ r2, c1, c2, ?_⟩, ho, g3⟩
  rw [List.flatten_append, List.length_append]
  exact k1
theorem joinE {K : Nat → Prop} {w w2 w3 : World} {ob2 ob3 : Option Nat} {v3 : Value} {l m : List PEdge} {r1 r2 : List (List Value)} (h1 : r1.length = l.length)
    (a : ∀ (k : Nat) x r, l[k]? = some x → r1[k]? = some r → REdge (fun b => w.heap.size ≤ b ∧ ob2 ≠ some b) w2 x r ∧ r.length = 5) (h2 : r2.length = m.length) (b : ∀ (k : Nat) x r, m[k]? = some x → r2[k]? = some r → REdge K w x r ∧ r.length = 5)
    (hob : ∀ g, ob2 = some g → w.heap.size ≤ g) (g : Grow w w2) (hm : Mod (fun k => ob2 = some k) w2 w3) (k1 : OwnS w3 91 5 v3 (l.length + m.length) (r1.flatten ++ r2.flatten) ob3) (k3 : ob3 = ob2 ∨ ∃ g, ob3 = some g ∧ w2.heap.size ≤ g) :
    OwnL w3 91 5 (REdge (fun b => (w.heap.size ≤ b ∨ K b) ∧ ob3 ≠ some b) w3) v3 (l ++ m) ob3 ∧ (∀ g, ob3 = some g → w.heap.size ≤ g) ∧ Grow w w3 := by
  have g3 : Grow w w3 := g.modd hm hob
  have hs := g.size
  have ho : ∀ g, ob3 = some g → w.heap.size ≤ g := fun g hg => by
    rcases k3 with h | ⟨g', h, hge⟩
    · exact hob g (h ▸ hg)
    · rw [h] at hg; cases hg; omega
  obtain ⟨c1, c2⟩ := joinRows (Q := REdge (fun b => (w.heap.size ≤ b ∨ K b) ∧ ob3 ≠ some b) w3) h1 (fun k x r hx hr => by
    obtain ⟨p, q⟩ := a k x r hx hr
    refine ⟨(p.cut.mod hm (fun b hb hh => hb.1.2 hh)).sub (fun b hb => ⟨.inl hb.1.1, fun hh => ?_⟩), q⟩
    rcases k3 with h | ⟨g', h, hge⟩
    · exact hb.1.2 (h ▸ hh)
    · rw [h] at hh; cases hh; have := hb.2; omega) h2 (fun k x r hx hr => by
    obtain ⟨p, q⟩ := b k x r hx hr
    refine ⟨(p.cut.mod (Mod.of_grow (F := fun _ => False) g3) (fun _ _ => id)).sub (fun b hb => ⟨.inr hb.1, fun hh => by have := ho b hh; have := hb.2; omega⟩), q⟩)
  refine ⟨⟨r1 ++ r2, c1, c2, ?_⟩, ho, g3⟩
  rw [List.flatten_append, List.length_append]
  exact k1

set_option maxRecDepth 100000 in
set_option maxHeartbeats 2000000 in
theorem undoAgain (S K : Nat → Prop) (B : Nat) (G H : PGraph) (ns : List PNode) (es : List PEdge) (nv ev : Value) (w : World) (h : GraphOk 101 S w B G) (hG : GInv G) (hn : NodesR K w nv ns) (he : EdgesR K w ev es)
    (hp1 : (G.nodes ++ ns).Perm H.nodes) (hp2 : (G.edges ++ es).Perm H.edges) (hnx : H.next = G.next) (hH : goodG H = true) :
    Calls Tryz.prog 68 #[.pointer (some ⟨B, 0, none⟩), nv, ev] w fun e w' => e = .returned (.tuple #[]) ∧ GraphOk 101 (fun b => b = B ∨ w.heap.size ≤ b) w' B H ∧ Mod (fun b => b = B) w w' := by
  have HRD := Lib.hid h.rd
  have HOK := Lib.hid h
  obtain ⟨nv0, ev0, _, _, _, hblk0, _⟩ := h
  have HBLK := Lib.hid hblk0
  have hB := blk_lt hblk0
  have hI := goodG_inv hH
  have hl1 : G.nodes.length + ns.length = H.nodes.length := by have := hp1.length_eq; rwa [List.length_append] at this
  have hl2 : G.edges.length + es.length = H.edges.length := by have := hp2.length_eq; rwa [List.length_append] at this
  have hit := hI.items
  have HL1 := Lib.hid (show G.nodes.length + ns.length ≤ 1024 by omega)
  have HL2 := Lib.hid (show G.edges.length + es.length ≤ 1024 by omega)
  have HP1 := Lib.hid hp1; have HP2 := Lib.hid hp2; have HNX := Lib.hid hnx; have HH := Lib.hid hH
  have HSN := Lib.hid hI.nodes; have HSE := Lib.hid hI.edges; have HIT := Lib.hid hit
  have HPN := Lib.hid (show ∀ x ∈ G.nodes, x.props.length ≤ 1099511627776 from fun x hx => by have := (hG.nodesB x hx).2.2; omega)
  have HPE := Lib.hid (show ∀ x ∈ G.edges, x.props.length ≤ 1099511627776 from fun x hx => by have := (hG.edgesB x hx).2.2; omega)
  obtain ⟨iN, hiN, hzN0, hzN1, hzN2⟩ := info_parts infoNode
  obtain ⟨iE, hiE, hzE0, hzE1, hzE2⟩ := info_parts infoEdge
  obtain ⟨rn, rn1, rn2, rn3⟩ := SlR.rd hn (by decide) (fun x r h => by obtain ⟨pv, rfl, _⟩ := h; rfl)
  obtain ⟨re, re1, re2, re3⟩ := SlR.rd he (by decide) (fun x r h => by obtain ⟨pv, rfl, _⟩ := h; rfl)
  obtain ⟨na, nc, rfl, _⟩ := SlR.open hn
  obtain ⟨ea, ec, rfl, _⟩ := SlR.open he
  have ON := Lib.hid (oneN rn1 rn2); have OE := Lib.hid (oneE re1 re2)
  have RN1 := Lib.hid rn1; have RN2 := Lib.hid rn2; have RN3 := Lib.hid rn3
  have RE1 := Lib.hid re1; have RE2 := Lib.hid re2; have RE3 := Lib.hid re3
  clear hG hn he hp1 hp2 hnx hH hblk0 hI hl1 hl2 hit rn1 rn2 rn3 re1 re2 re3
  go_enter Tryz.func68, Tryz.ntmps68
  go_wp2_with fail
  refine (graphNodes S B G _ HRD.out (by have := HL1.out; omega) HPN.out).mono ?_
  rintro e w2 ⟨v2, ob2, rfl, hown2, hob2, hg2⟩
  obtain ⟨q2, q21, -, q22, q23⟩ := hown2.rowLen
  have HQ1 := Lib.hid q21; have HQ2 := Lib.hid q22; have HQ3 := Lib.hid q23; have HOB2 := Lib.hid hob2; have HG2 := Lib.hid hg2
  obtain ⟨a2, c2, rfl, -, -⟩ := q23.isSlice
  clear hown2 hob2 hg2 q21 q22 q23
  go_wp2_with (at_builtin; go_must (refine wpList_append_S _ rfl (.tmp 7) (.tmp 8) 59 rfl 89 iN _ 3 48 Tryz.underlying59 hiN hzN0 hzN1 hzN2 rfl (by decide) (.slice a2 G.nodes.length c2) G.nodes.length _ ob2 rfl HQ3.out (.slice na ns.length nc) rfl ns.length _ (RN3.out.grow HG2.out) ON.out (by have := HL1.out; unfold maxLen; omega) (by have := HL1.out; omega) ?_))
  intro v3 w3 ob3 k1 k2 k3 _
  obtain ⟨j1, j2, j3⟩ := joinN HQ1.out HQ2.out RN1.out RN2.out HOB2.out HG2.out k2 k1 k3
  have J1 := Lib.hid j1; have J2 := Lib.hid j2; have J3 := Lib.hid j3
  obtain ⟨a3, c3, rfl, -, -⟩ := k1.isSlice
  clear k1 k2 k3 j1 j2 j3
  go_wp2_with fail
  refine (graphEdges S B G _ (HRD.out.grow J3.out) (by have := HL2.out; omega) HPE.out).mono ?_
  rintro e w4 ⟨v4, ob4, rfl, hown4, hob4, hg4⟩
  obtain ⟨q4, q41, -, q42, q43⟩ := hown4.rowLen
  have HQ41 := Lib.hid q41; have HQ42 := Lib.hid q42; have HQ43 := Lib.hid q43; have HOB4 := Lib.hid hob4; have HG4 := Lib.hid hg4
  obtain ⟨a4, c4, rfl, -, -⟩ := q43.isSlice
  clear hown4 hob4 hg4 q41 q42 q43
  have hs3 := J3.out.size
  go_wp2_with (at_builtin; go_must (refine wpList_append_S _ rfl (.tmp 11) (.tmp 12) 84 rfl 91 iE _ 5 64 Tryz.underlying84 hiE hzE0 hzE1 hzE2 rfl (by decide) (.slice a4 G.edges.length c4) G.edges.length _ ob4 rfl HQ43.out (.slice ea es.length ec) rfl es.length _ (RE3.out.grow (J3.out.step HG4.out)) OE.out (by have := HL2.out; unfold maxLen; omega) (by have := HL2.out; omega) ?_))
  intro v5 w5 ob5 k1 k2 k3 _
  obtain ⟨j1, j2, j3⟩ := joinE (K := fun b => K b ∧ b < w.heap.size) HQ41.out HQ42.out RE1.out (fun k x r hx hr => ⟨(RE2.out k x r hx hr).1.cut.mod (Mod.of_grow (F := fun _ => False) J3.out) (fun _ _ => id), (RE2.out k x r hx hr).2⟩) HOB4.out HG4.out k2 k1 k3
  have M1 := Lib.hid j1; have M2 := Lib.hid j2; have M3 := Lib.hid j3
  have N1 := Lib.hid (J1.out.keep (R' := RNode (fun b => ((w.heap.size ≤ b ∨ K b) ∧ ob3 ≠ some b) ∧ b < w3.heap.size) w5) (w' := w5) (fun g hg => j3.heapEq (J1.out.lt g hg)) (fun x r _ hR => hR.cut.mod (Mod.of_grow (F := fun _ => False) j3) (fun _ _ => id)))
  obtain ⟨a5, c5, rfl, -, -⟩ := k1.isSlice
  clear k1 k2 k3 j1 j2 j3
  have hln := HL1.out; have hle := HL2.out
  have hcn : (G.nodes ++ ns).length = G.nodes.length + ns.length := List.length_append
  have hce : (G.edges ++ es).length = G.edges.length + es.length := List.length_append
  go_wp2_with fail
  refine (sortN _ _ (G.nodes ++ ns) ob3 _ N1.out (fun g hg h => h.1.2 hg) (by omega)).mono ?_
  rintro e w6 ⟨rfl, L, p1, p2, own6, m6⟩
  have hL : L = H.nodes := sorted_one (f := fun x : PNode => x.id) (p1.trans HP1.out) HSN.out p2
  subst hL
  have OWN6 := Lib.hid own6
  have hd35 : ∀ g, ob5 = some g → ob3 ≠ some g := fun g hg hh => by have h1 := M2.out g hg; have h2 := J1.out.lt g hh; omega
  have m6g : Grow w w6 := ((J3.out.step M3.out).modd m6 (fun g hg => J2.out g hg))
  have E6 := Lib.hid (M1.out.keep (R' := REdge (fun b => (w3.heap.size ≤ b ∨ K b ∧ b < w.heap.size) ∧ ob5 ≠ some b) w6) (w' := w6) (fun g hg => m6.block g (M1.out.lt g hg) (hd35 g hg)) (fun x r _ hR => hR.mod m6 (fun b hb hh => by
    have h1 := J2.out b hh; have h2 := J1.out.lt b hh; rcases hb.1 with h | h <;> omega)))
  have M6 := Lib.hid m6; have G6 := Lib.hid m6g; have HD35 := Lib.hid hd35
  clear own6 m6 m6g hd35 p1 p2
  go_wp2_with fail
  refine (sortE _ _ (G.edges ++ es) ob5 _ E6.out (fun g hg h => h.2 hg) (by omega)).mono ?_
  rintro e w7 ⟨rfl, L, p1, p2, own7, m7⟩
  have hL : L = H.edges := sorted_one (f := fun x : PEdge => x.id) (p1.trans HP2.out) HSE.out p2
  subst hL
  have m7g : Grow w w7 := G6.out.modd m7 (fun g hg => by have := M2.out g hg; omega)
  have N7 := Lib.hid (show NodesR (fun _ => True) w7 (.slice a3 (G.nodes.length + ns.length) c3) H.nodes from
    SlR.sub ((OWN6.out.keep (R' := RNode (fun _ => True) w7) (w' := w7) (fun g hg => m7.block g (OWN6.out.lt g hg) (fun hh => HD35.out g hh hg)) (fun x r _ hR => (hR.mod m7 (fun b hb hh => by have := M2.out b hh; have := hb.2; omega)).sub (fun _ _ => trivial))).toSl (S := fun _ => True) (fun _ _ => trivial)) (fun _ _ => trivial) (fun _ _ _ h => h))
  have E7 := Lib.hid (show EdgesR (fun _ => True) w7 (.slice a5 (G.edges.length + es.length) c5) H.edges from
    SlR.sub (own7.toSl (S := fun _ => True) (fun _ _ => trivial)) (fun _ _ => trivial) (fun x r _ hR => hR.sub (fun _ _ => trivial)))
  have HB7 := Lib.hid ((m7g.heapEq hB).trans HBLK.out)
  have G7 := Lib.hid m7g
  clear own7 m7 m7g p1 p2
  go_wp2_with fail
  refine (graphNext S B G _ (HOK.out.grow G7.out)).mono ?_
  rintro e w8 ⟨rfl, hw8⟩
  subst hw8
  rw [← HNX.out]
  go_wp2_with fail
  refine (graphLoad (fun _ => True) B #[nv0, ev0, .int .i64 G.next] _ _ H.nodes H.edges H.next _ rfl HB7.out N7.out E7.out (by have := HIT.out; omega) (by have := HIT.out; omega)).mono ?_
  rintro e w9 (⟨-, rfl, hok, hm9⟩ | ⟨hbad, -⟩)
  · go_wp2
    go_end0
    have hs7 := G7.out.size
    exact ⟨rfl, hok.sub (fun b hb => hb.imp (fun x => x) (fun h => Nat.le_trans hs7 h)), (Mod.of_grow G7.out).step hm9⟩
  · have h := HH.out
    rw [show H = ⟨H.nodes, H.edges, H.next⟩ from rfl, hbad] at h
    cases h
end Go.Hg

namespace Go.Hg
open Go.RowKit Go.Proofs

theorem slCut {α : Type} {S : Nat → Prop} {w : World} {sz : Nat} {R : α → List Value → Prop} {v : Value} {l : List α} (h : SlR S w sz R v l) : SlR (fun b => S b ∧ b < w.heap.size) w sz R v l := by
  obtain ⟨a, cap, rows, hv, hl, hc, hr, hR1, h⟩ := h
  refine ⟨a, cap, rows, hv, hl, hc, hr, hR1, fun h0 => ?_⟩
  obtain ⟨b, off, ha, hS, hb, hcell⟩ := h h0
  exact ⟨b, off, ha, ⟨hS, hb⟩, hb, hcell⟩
theorem edgesCut {S : Nat → Prop} {w : World} {v : Value} {l : List PEdge} (h : EdgesR S w v l) : EdgesR (fun b => S b ∧ b < w.heap.size) w v l := SlR.sub (slCut h) (fun _ h => h) (fun _ _ _ hR => hR.cut)
theorem edgesMod {F S : Nat → Prop} {w w' : World} {v : Value} {l : List PEdge} (h : EdgesR S w v l) (g : Mod F w w') (hd : ∀ b, S b → ¬ F b) : EdgesR S w' v l := SlR.sub (SlR.modS h g hd) (fun _ h => h) (fun _ _ _ hR => hR.mod g hd)
theorem edgesSub {S S' : Nat → Prop} {w : World} {v : Value} {l : List PEdge} (h : EdgesR S w v l) (hS : ∀ b, S b → S' b) : EdgesR S' w v l := SlR.sub h hS (fun _ _ _ hR => hR.sub hS)

theorem slNil {α : Type} (S : Nat → Prop) (w : World) (sz : Nat) (R : α → List Value → Prop) : SlR S w sz R (.slice none 0 0) [] := ⟨none, 0, [], rfl, Nat.le_refl _, by simp [maxLen], rfl, by simp, by simp⟩
theorem noCat (S : Nat → Prop) (w : World) : CatR S w (.slice none 0 0) (.slice none 0 0) (.slice none 0 0) (.slice none 0 0) noC := ⟨slNil _ _ _ _, slNil _ _ _ _, slNil _ _ _ _, slNil _ _ _ _⟩
theorem slOne {α : Type} {S : Nat → Prop} {w : World} {b sz : Nat} {cs : Array Value} {T : TypeId} {R : α → List Value → Prop} (hb : w.heap[b]? = some (.cells cs T (0, 0))) (hS : S b) (x : α) (hR : R x cs.toList) : SlR S w sz R (.slice (some ⟨b, 0, none⟩) 1 1) [x] := by
  refine ⟨some ⟨b, 0, none⟩, 1, [cs.toList], rfl, Nat.le_refl _, by simp [maxLen], rfl, ?_, fun _ => ⟨b, 0, rfl, hS, blk_lt hb, ?_⟩⟩
  · intro k y r hy hr
    cases k with
    | zero => simp at hy hr; subst hy; subst hr; exact hR
    | succ k => simp at hy
  · intro k r j c hr hj
    cases k with
    | zero =>
      simp at hr
      subst hr
      rw [blk_cell hb]
      simpa using hj
    | succ k => simp at hr

def BoxU (K : Nat → Prop) (w : World) (b : Nat) (cs : Array Value) (T : TypeId) : Prop := K b ∧ w.heap[b]? = some (.cells cs T (0, 0))
theorem BoxU.mod {F K : Nat → Prop} {w w' : World} {b : Nat} {cs : Array Value} {T : TypeId} (h : BoxU K w b cs T) (g : Mod F w w') (hd : ∀ b, K b → ¬ F b) : BoxU K w' b cs T := ⟨h.1, blk_mod h.2 g (hd b h.1)⟩
theorem BoxU.sub {K K' : Nat → Prop} {w : World} {b : Nat} {cs : Array Value} {T : TypeId} (h : BoxU K w b cs T) (hK : ∀ b, K b → K' b) : BoxU K' w b cs T := ⟨hK _ h.1, h.2⟩
theorem BoxU.cut {K : Nat → Prop} {w : World} {b : Nat} {cs : Array Value} {T : TypeId} (h : BoxU K w b cs T) : BoxU (fun b => K b ∧ b < w.heap.size) w b cs T := ⟨⟨h.1, blk_lt h.2⟩, h.2⟩
abbrev capU (b : Nat) : Value := .pointer (some ⟨b, 0, none⟩)
def BackV (K : Nat → Prop) (w : World) (B : Nat) (o : POp) (g : PGraph) (fv : Value) : Prop :=
  ∃ gb, BoxU K w gb #[capU B] 24 ∧
    (((o.kind = 1 ∨ o.kind = 3) ∧ ∃ nb, BoxU K w nb #[.int .i64 g.next] 2 ∧ fv = .func (.func 62) #[] #[capU gb, capU nb]) ∨
     (o.kind = 5 ∧ ∃ ob vb ps, findP g o.id = some ps ∧ BoxU K w ob o.cells.toArray 35 ∧ BoxU K w vb #[.int .i64 (getV ps o.name).kind, .int .i64 (getV ps o.name).n, .string (getV ps o.name).s] 33 ∧ fv = .func (.func 65) #[] #[capU gb, capU ob, capU vb]) ∨
     (o.kind = 4 ∧ ∃ eb x pv, x ∈ g.edges ∧ x.id = o.id ∧ BoxU K w eb #[.int .i64 x.id, .string x.typ, .int .i64 x.from_, .int .i64 x.to_, pv] 91 ∧ PropsR K w pv x.props ∧ fv = .func (.func 67) #[] #[capU gb, capU eb]) ∨
     (o.kind = 2 ∧ ∃ nb eb x pv ev, x ∈ g.nodes ∧ x.id = o.id ∧ BoxU K w nb #[.int .i64 x.id, .string x.typ, pv] 89 ∧ PropsR K w pv x.props ∧ BoxU K w eb #[ev] 84 ∧ EdgesR K w ev (g.edges.filter fun y => atE y o.id) ∧ fv = .func (.func 70) #[] #[capU gb, capU nb, capU eb]))
theorem BackV.mod {F K : Nat → Prop} {w w' : World} {B : Nat} {o : POp} {g : PGraph} {fv : Value} (h : BackV K w B o g fv) (m : Mod F w w') (hd : ∀ b, K b → ¬ F b) : BackV K w' B o g fv := by
  obtain ⟨gb, h0, h⟩ := h
  refine ⟨gb, h0.mod m hd, ?_⟩
  rcases h with ⟨h1, nb, h2, h3⟩ | ⟨h1, ob, vb, ps, h2, h3, h4, h5⟩ | ⟨h1, eb, x, pv, h2, h3, h4, h5, h6⟩ | ⟨h1, nb, eb, x, pv, ev, h2, h3, h4, h5, h6, h7, h8⟩
  · exact .inl ⟨h1, nb, h2.mod m hd, h3⟩
  · exact .inr (.inl ⟨h1, ob, vb, ps, h2, h3.mod m hd, h4.mod m hd, h5⟩)
  · exact .inr (.inr (.inl ⟨h1, eb, x, pv, h2, h3, h4.mod m hd, h5.mod m hd, h6⟩))
  · exact .inr (.inr (.inr ⟨h1, nb, eb, x, pv, ev, h2, h3, h4.mod m hd, h5.mod m hd, h6.mod m hd, edgesMod h7 m hd, h8⟩))
theorem BackV.sub {K K' : Nat → Prop} {w : World} {B : Nat} {o : POp} {g : PGraph} {fv : Value} (h : BackV K w B o g fv) (hK : ∀ b, K b → K' b) : BackV K' w B o g fv := by
  obtain ⟨gb, h0, h⟩ := h
  refine ⟨gb, h0.sub hK, ?_⟩
  rcases h with ⟨h1, nb, h2, h3⟩ | ⟨h1, ob, vb, ps, h2, h3, h4, h5⟩ | ⟨h1, eb, x, pv, h2, h3, h4, h5, h6⟩ | ⟨h1, nb, eb, x, pv, ev, h2, h3, h4, h5, h6, h7, h8⟩
  · exact .inl ⟨h1, nb, h2.sub hK, h3⟩
  · exact .inr (.inl ⟨h1, ob, vb, ps, h2, h3.sub hK, h4.sub hK, h5⟩)
  · exact .inr (.inr (.inl ⟨h1, eb, x, pv, h2, h3, h4.sub hK, h5.sub hK, h6⟩))
  · exact .inr (.inr (.inr ⟨h1, nb, eb, x, pv, ev, h2, h3, h4.sub hK, h5.sub hK, h6.sub hK, edgesSub h7 hK, h8⟩))
theorem BackV.cut {K : Nat → Prop} {w : World} {B : Nat} {o : POp} {g : PGraph} {fv : Value} (h : BackV K w B o g fv) : BackV (fun b => K b ∧ b < w.heap.size) w B o g fv := by
  obtain ⟨gb, h0, h⟩ := h
  refine ⟨gb, h0.cut, ?_⟩
  rcases h with ⟨h1, nb, h2, h3⟩ | ⟨h1, ob, vb, ps, h2, h3, h4, h5⟩ | ⟨h1, eb, x, pv, h2, h3, h4, h5, h6⟩ | ⟨h1, nb, eb, x, pv, ev, h2, h3, h4, h5, h6, h7, h8⟩
  · exact .inl ⟨h1, nb, h2.cut, h3⟩
  · exact .inr (.inl ⟨h1, ob, vb, ps, h2, h3.cut, h4.cut, h5⟩)
  · exact .inr (.inr (.inl ⟨h1, eb, x, pv, h2, h3, h4.cut, h5.cut, h6⟩))
  · exact .inr (.inr (.inr ⟨h1, nb, eb, x, pv, ev, h2, h3, h4.cut, h5.cut, h6.cut, edgesCut h7, h8⟩))

def BackPost (S : Nat → Prop) (B : Nat) (g : PGraph) (w : World) (e : Ending) (w' : World) : Prop :=
  e = .returned (.tuple #[]) ∧ GraphOk 101 (fun b => S b ∨ w.heap.size ≤ b) w' B g ∧ Mod S w w'
theorem backPost_of {S : Nat → Prop} {B : Nat} {g : PGraph} {w w' : World} (hB : S B) (h : GraphOk 101 (fun b => b = B ∨ w.heap.size ≤ b) w' B g) (m : Mod (fun b => b = B) w w') : BackPost S B g w (.returned (.tuple #[])) w' :=
  ⟨rfl, h.sub (fun b hb => hb.elim (fun e => .inl (by rw [e]; exact hB)) .inr), m.mono (fun b e => by rw [e]; exact hB)⟩

set_option maxHeartbeats 1000000 in
theorem back1 (S : Nat → Prop) (B gb nb : Nat) (H g : PGraph) (w : World) (h : GraphOk 101 S w B H) (hH : GInv H) (hg : goodG g = true) (e : goneG H g.next = g) (h1 : w.heap[gb]? = some (.cells #[capU B] 24 (0, 0))) (h2 : w.heap[nb]? = some (.cells #[.int .i64 g.next] 2 (0, 0))) :
    Calls Tryz.prog 62 #[capU gb, capU nb] w (BackPost S B g w) := by
  have hSB : S B := by obtain ⟨_, _, _, _, _, _, h, _⟩ := h; exact h
  have HGR := Lib.hid h; have HH := Lib.hid hH; have HE := Lib.hid e; have HG := Lib.hid hg; have HSB := Lib.hid hSB
  have hl1 := blk_lt h1; have hl2 := blk_lt h2
  have c1 : w.cell? ⟨gb, 0, none⟩ = some (capU B) := (blk_cell h1 0).trans rfl
  have c2 : w.cell? ⟨nb, 0, none⟩ = some (.int .i64 g.next) := (blk_cell h2 0).trans rfl
  clear h hH hg e hSB h1 h2
  go_enter Tryz.func62, Tryz.ntmps62
  go_wp2_with fail
  refine (undoGone S B H g.next _ HGR.out HH.out (by rw [HE.out]; exact HG.out)).mono ?_
  rintro e w2 ⟨rfl, hok, hm⟩
  rw [HE.out] at hok
  go_wp2
  go_end0
  exact backPost_of HSB.out hok hm

set_option maxHeartbeats 1000000 in
theorem back2 (S : Nat → Prop) (B gb ob vb : Nat) (H g : PGraph) (o : POp) (v : PVal) (w : World) (h : GraphOk 101 S w B H) (hH : GInv H) (e1 : mayG noC (wasOp o v) H = 0) (e2 : doG (wasOp o v) H = g) (h1 : w.heap[gb]? = some (.cells #[capU B] 24 (0, 0))) (h2 : w.heap[ob]? = some (.cells o.cells.toArray 35 (0, 0))) (h3 : w.heap[vb]? = some (.cells #[.int .i64 v.kind, .int .i64 v.n, .string v.s] 33 (0, 0))) :
    Calls Tryz.prog 65 #[capU gb, capU ob, capU vb] w (BackPost S B g w) := by
  have HGR := Lib.hid h; have HH := Lib.hid hH; have HE1 := Lib.hid e1; have HE2 := Lib.hid e2
  have hl1 := blk_lt h1; have hl2 := blk_lt h2; have hl3 := blk_lt h3
  have c1 : w.cell? ⟨gb, 0, none⟩ = some (capU B) := (blk_cell h1 0).trans rfl
  have c2 : w.cell? ⟨ob, 1, none⟩ = some (.int .i64 o.id) := (blk_cell h2 1).trans rfl
  have c3 : w.cell? ⟨ob, 5, none⟩ = some (.string o.name) := (blk_cell h2 5).trans rfl
  have c4 : w.cell? ⟨vb, 0, none⟩ = some (.int .i64 v.kind) := (blk_cell h3 0).trans rfl
  have c5 : w.cell? ⟨vb, 1, none⟩ = some (.int .i64 v.n) := (blk_cell h3 1).trans rfl
  have c6 : w.cell? ⟨vb, 2, none⟩ = some (.string v.s) := (blk_cell h3 2).trans rfl
  clear h hH e1 e2 h1 h2 h3
  go_enter Tryz.func65, Tryz.ntmps65
  go_wp2_with fail
  have hd := graphDo S (fun _ => False) B H (.slice none 0 0) (.slice none 0 0) (.slice none 0 0) (.slice none 0 0) noC (wasOp o v) w HGR.out HH.out (noCat _ _)
  refine hd.mono ?_
  rintro e w2 ⟨rfl, hok, hm⟩
  unfold Hg.stepG at hok
  rw [if_pos HE1.out, HE2.out] at hok
  go_wp2
  go_end0
  exact ⟨rfl, hok, hm⟩

set_option maxHeartbeats 1000000 in
theorem back3 (S K : Nat → Prop) (B gb eb : Nat) (H g : PGraph) (x : PEdge) (pv : Value) (w : World) (h : GraphOk 101 S w B H) (hH : GInv H) (hg : goodG g = true) (e1 : H.nodes = g.nodes) (e2 : (H.edges ++ [x]).Perm g.edges) (e3 : g.next = H.next)
    (h1 : w.heap[gb]? = some (.cells #[capU B] 24 (0, 0))) (h2 : w.heap[eb]? = some (.cells #[.int .i64 x.id, .string x.typ, .int .i64 x.from_, .int .i64 x.to_, pv] 91 (0, 0))) (hp : PropsR K w pv x.props) :
    Calls Tryz.prog 67 #[capU gb, capU eb] w (BackPost S B g w) := by
  have hSB : S B := by obtain ⟨_, _, _, _, _, _, h, _⟩ := h; exact h
  obtain ⟨pa, pc, rfl⟩ := hp.isSlice
  have HGR := Lib.hid h; have HH := Lib.hid hH; have HE1 := Lib.hid e1; have HE2 := Lib.hid e2; have HE3 := Lib.hid e3; have HG := Lib.hid hg; have HSB := Lib.hid hSB
  have hl1 := blk_lt h1; have hl2 := blk_lt h2
  have c1 : w.cell? ⟨gb, 0, none⟩ = some (capU B) := (blk_cell h1 0).trans rfl
  have d0 : w.cell? ⟨eb, 0, none⟩ = some (.int .i64 x.id) := (blk_cell h2 0).trans rfl
  have d1 : w.cell? ⟨eb, 1, none⟩ = some (.string x.typ) := (blk_cell h2 1).trans rfl
  have d2 : w.cell? ⟨eb, 2, none⟩ = some (.int .i64 x.from_) := (blk_cell h2 2).trans rfl
  have d3 : w.cell? ⟨eb, 3, none⟩ = some (.int .i64 x.to_) := (blk_cell h2 3).trans rfl
  have d4 : w.cell? ⟨eb, 4, none⟩ = some (.slice pa x.props.length pc) := (blk_cell h2 4).trans rfl
  have hgr : ∀ o1, Grow w (w.alloc o1) := fun o1 => (Grow.rfl' w).allocd o1
  have HGW := Lib.hid hgr
  have HER := Lib.hid (show EdgesR (fun _ => True) (w.alloc (.cells #[.int .i64 x.id, .string x.typ, .int .i64 x.from_, .int .i64 x.to_, .slice pa x.props.length pc] 91)) (.slice (some ⟨w.heap.size, 0, none⟩) 1 1) [x] from
    slOne (heap_alloc_new w _) trivial x ⟨_, rfl, (hp.grow (hgr _)).sub (fun _ _ => trivial)⟩)
  clear h hH hg e1 e2 e3 hSB h1 h2 hp hgr
  go_enter Tryz.func67, Tryz.ntmps67
  go_wp2_with fail
  refine (undoAgain S (fun _ => True) B H g [] [x] _ _ _ (HGR.out.grow (HGW.out _)) HH.out (slNil _ _ _ _) HER.out (by rw [List.append_nil, HE1.out]) HE2.out HE3.out HG.out).mono ?_
  rintro e w2 ⟨rfl, hok, hm⟩
  go_wp2
  go_end0
  exact backPost_of HSB.out (hok.sub (fun b hb => hb.imp id (fun h => by simp at h; omega))) ((Mod.of_grow (HGW.out _)).step hm)

set_option maxHeartbeats 1000000 in
theorem back4 (S K : Nat → Prop) (B gb nb eb : Nat) (H g : PGraph) (x : PNode) (pv ev : Value) (es : List PEdge) (w : World) (h : GraphOk 101 S w B H) (hH : GInv H) (hg : goodG g = true) (e1 : (H.nodes ++ [x]).Perm g.nodes) (e2 : (H.edges ++ es).Perm g.edges) (e3 : g.next = H.next)
    (h1 : w.heap[gb]? = some (.cells #[capU B] 24 (0, 0))) (h2 : w.heap[nb]? = some (.cells #[.int .i64 x.id, .string x.typ, pv] 89 (0, 0))) (hp : PropsR K w pv x.props) (h3 : w.heap[eb]? = some (.cells #[ev] 84 (0, 0))) (he : EdgesR K w ev es) :
    Calls Tryz.prog 70 #[capU gb, capU nb, capU eb] w (BackPost S B g w) := by
  have hSB : S B := by obtain ⟨_, _, _, _, _, _, h, _⟩ := h; exact h
  obtain ⟨pa, pc, rfl⟩ := hp.isSlice
  obtain ⟨ea, ec, rfl, _⟩ := SlR.open he
  have HGR := Lib.hid h; have HH := Lib.hid hH; have HE1 := Lib.hid e1; have HE2 := Lib.hid e2; have HE3 := Lib.hid e3; have HG := Lib.hid hg; have HSB := Lib.hid hSB
  have hl1 := blk_lt h1; have hl2 := blk_lt h2; have hl3 := blk_lt h3
  have c1 : w.cell? ⟨gb, 0, none⟩ = some (capU B) := (blk_cell h1 0).trans rfl
  have d0 : w.cell? ⟨nb, 0, none⟩ = some (.int .i64 x.id) := (blk_cell h2 0).trans rfl
  have d1 : w.cell? ⟨nb, 1, none⟩ = some (.string x.typ) := (blk_cell h2 1).trans rfl
  have d2 : w.cell? ⟨nb, 2, none⟩ = some (.slice pa x.props.length pc) := (blk_cell h2 2).trans rfl
  have hgr : ∀ o1, Grow w (w.alloc o1) := fun o1 => (Grow.rfl' w).allocd o1
  have c2 : ∀ o1, (w.alloc o1).cell? ⟨eb, 0, none⟩ = some (.slice ea es.length ec) := fun o1 => (blk_cell (((hgr o1).heapEq hl3).trans h3) 0).trans rfl
  have HGW := Lib.hid hgr
  have HNR := Lib.hid (show NodesR (fun _ => True) (w.alloc (.cells #[.int .i64 x.id, .string x.typ, .slice pa x.props.length pc] 89)) (.slice (some ⟨w.heap.size, 0, none⟩) 1 1) [x] from
    slOne (heap_alloc_new w _) trivial x ⟨_, rfl, (hp.grow (hgr _)).sub (fun _ _ => trivial)⟩)
  have HER := Lib.hid (show ∀ o1, EdgesR (fun _ => True) (w.alloc o1) (.slice ea es.length ec) es from fun o1 => edgesSub (he.grow (hgr o1)) (fun _ _ => trivial))
  clear h hH hg e1 e2 e3 hSB h1 h2 h3 hp he hgr
  go_enter Tryz.func70, Tryz.ntmps70
  go_wp2_with fail
  refine (undoAgain S (fun _ => True) B H g [x] es _ _ _ (HGR.out.grow (HGW.out _)) HH.out HNR.out (HER.out _) HE1.out HE2.out HE3.out HG.out).mono ?_
  rintro e w2 ⟨rfl, hok, hm⟩
  go_wp2
  go_end0
  exact backPost_of HSB.out (hok.sub (fun b hb => hb.imp id (fun h => by simp at h; omega))) ((Mod.of_grow (HGW.out _)).step hm)

theorem backCall (S K : Nat → Prop) (B : Nat) (o : POp) (g : PGraph) (fv : Value) (w : World) (hb : BackV K w B o g fv) (h : GraphOk 101 S w B (doG o g)) (hg : goodG g = true) (hm : mayG typesC o g = 0) :
    ∃ (f : Nat) (caps : Array Value), fv = .func (.func f) #[] caps ∧ (∀ args w, (callFunc f args).run Tryz.prog w = .ok (.enter f args) w) ∧ Calls Tryz.prog f caps w (BackPost S B g w) := by
  obtain ⟨hi, hx⟩ := goodG_iff.1 hg
  have hH : GInv (doG o g) := by
    have h2 := goodG_inv (goodG_step (o := o) typesC_names hg)
    unfold Hg.stepG at h2
    rwa [if_pos hm] at h2
  obtain ⟨gb, h0, hb⟩ := hb
  rcases hb with ⟨h1, nb, h2, h3⟩ | ⟨h1, ob, vb, ps, h2, h3, h4, h5⟩ | ⟨h1, eb, x, pv, h2, h3, h4, h5, h6⟩ | ⟨h1, nb, eb, x, pv, ev, h2, h3, h4, h5, h6, h7, h8⟩
  · refine ⟨_, _, h3, fun args w => enterF Tryz.func62 (by kernel_rfl) rfl args w, back1 S B gb nb _ g w h hH hg ?_ h0.2 h2.2⟩
    unfold Hg.doG goneG
    rcases h1 with h1 | h1
    · rw [if_pos h1]; exact gone_node hi o
    · rw [if_neg (by omega), if_neg (by omega), if_pos h1]; exact gone_edge hi o
  · have hn : NameOk o.name := by
      unfold mayG at hm
      rw [if_neg (by omega), if_neg (by omega), if_neg (by omega), if_neg (by omega), if_pos h1] at hm
      by_cases hN : ¬NameOk o.name ∨ ¬GoodV o.v ∧ ¬BlankV o.v
      · rw [if_pos hN] at hm; cases hm
      · exact Classical.not_not.1 (fun h => hN (.inl h))
    have hd : doG o g = setPropG o g := by unfold Hg.doG; rw [if_neg (by omega), if_neg (by omega), if_neg (by omega), if_neg (by omega), if_pos h1]
    obtain ⟨s1, s2⟩ := set_back hi hx h2 hn
    rw [← hd] at s1 s2
    exact ⟨_, _, h5, fun args w => enterF Tryz.func65 (by kernel_rfl) rfl args w, back2 S B gb ob vb _ g o _ w h hH s1 s2 h0.2 h3.2 h4.2⟩
  · have hd : doG o g = dropEdgeG o g := by unfold Hg.doG; rw [if_neg (by omega), if_neg (by omega), if_neg (by omega), if_pos h1]
    refine ⟨_, _, h6, fun args w => enterF Tryz.func67 (by kernel_rfl) rfl args w, back3 S K B gb eb _ g x pv w h hH hg (by rw [hd]; rfl) ?_ (by rw [hd]; rfl) h0.2 h4.2 h5⟩
    rw [hd]
    have := again_edge hi h2
    rw [h3] at this
    exact this
  · have hd : doG o g = dropNodeG o g := by unfold Hg.doG; rw [if_neg (by omega), if_pos h1]
    refine ⟨_, _, h8, fun args w => enterF Tryz.func70 (by kernel_rfl) rfl args w, back4 S K B gb nb eb _ g x pv ev _ w h hH hg ?_ ?_ (by rw [hd]; rfl) h0.2 h4.2 h5 h6.2 h7⟩
    · rw [hd]
      have := again_nodes hi h2
      rw [h3] at this
      exact this
    · rw [hd]
      exact again_edges g o.id
end Go.Hg

namespace Go.Hg
open Go.RowKit Go.Proofs

section
variable {P : Program} (w : World)
theorem run_append_0 (t ty e : TypeId) (i : TypeInfo) (ht : P.underlying t = some (.slice e)) (hi : P.info? e = some i) (oa : Option Addr) (n cap : Nat) (hc : n ≤ cap) :
    (Builtin.append_ #[t, t] ty #[.slice oa n cap, .slice none 0 0]).run P w = .ok (.slice oa n cap) w := by
  cases oa <;> simp [Builtin.append_, run_underlying ht, sizeOf, typeInfo, hi, Builtin.lenOf, hc, Builtin.firstCells, loadCells, storeCells]
theorem wp_append_0 {o : Oper} {a : Act} {K : Act → World → Prop} {Q : Exit → Act → World → Prop} (s x : Operand) (t : TypeId)
    (ho : o.op = .call { callee := .builtin .append, args := #[s, x], argTypes := #[t, t] })
    (e : TypeId) (i : TypeInfo) (ht : P.underlying t = some (.slice e)) (hi : P.info? e = some i)
    (oa : Option Addr) (n cap : Nat) (hc : n ≤ cap) (hs : a.eval s = .slice oa n cap) (hxv : a.eval x = .slice none 0 0)
    (h : K (a.put o.dst (.slice oa n cap)) w) : o.wp P a w K Q := by
  have hr := run_append_0 (P := P) w t o.type e i ht hi oa n cap hc
  unfold Oper.wp execOp
  simp only [ho, resolve, invoke, builtin, Sem.run_bind, Sem.run_pure, Result.andThen_ok, List.map_toArray, List.map_cons, List.map_nil, hs, hxv, hr]
  exact h
theorem wpList_append_0 {ops : Array Oper} {rest : List Oper} {o : Oper} {a : Act} {Q : Exit → Act → World → Prop} (hgd : o.guard = none) (s x : Operand) (t : TypeId)
    (ho : o.op = .call { callee := .builtin .append, args := #[s, x], argTypes := #[t, t] })
    (e : TypeId) (i : TypeInfo) (ht : P.underlying t = some (.slice e)) (hi : P.info? e = some i)
    (oa : Option Addr) (n cap : Nat) (hc : n ≤ cap) (hs : a.eval s = .slice oa n cap) (hxv : a.eval x = .slice none 0 0)
    (h : wpList P ops Q rest (a.put o.dst (.slice oa n cap)) w) : wpList P ops Q (o :: rest) a w :=
  wpList_plain hgd fun _ hK => wp_append_0 w s x t ho e i ht hi oa n cap hc hs hxv (hK _ _ h)
end

theorem propsOwn {w : World} {v : Value} {l : List PProp} {ob : Option Nat} (h : OwnS w 105 4 v l.length (l.map PProp.cells).flatten ob) : PropsR (fun _ => True) w v l :=
  (show OwnL w 105 4 RProp v l ob from ⟨l.map PProp.cells, by simp, fun k x r hx hr => by
    rw [List.getElem?_map, hx] at hr
    simp only [Option.map_some, Option.some.injEq] at hr
    subst hr
    exact ⟨rfl, rfl⟩, h⟩).toSl (S := fun _ => True) (fun _ _ => trivial)
set_option maxRecDepth 100000 in
set_option maxHeartbeats 1000000 in
theorem undoProp (S : Nat → Prop) (B : Nat) (G : PGraph) (id : Int) (name : ByteArray) (ps : List PProp) (w : World) (h : GraphOk 101 S w B G) (hg : goodG G = true) (hf : findP G id = some ps) :
    Calls Tryz.prog 64 #[capU B, .int .i64 id, .string name] w fun e w' => e = .returned ((getV ps name).args) ∧ Grow w w' := by
  obtain ⟨hi, hx⟩ := goodG_iff.1 hg
  have HRD := Lib.hid h.rd
  have HSN := Lib.hid hi.nodes; have HSE := Lib.hid hi.edges
  have HPN := Lib.hid (show ∀ x ∈ G.nodes, x.props.length ≤ 1099511627776 from fun x hx => by have := (hi.nodesB x hx).2.2; omega)
  have HPE := Lib.hid (show ∀ x ∈ G.edges, x.props.length ≤ 1099511627776 from fun x hx => by have := (hi.edgesB x hx).2.2; omega)
  have HIT := Lib.hid hi.items
  have HX := Lib.hid hx; have HF := Lib.hid hf
  have HNB := Lib.hid hi.nodesB; have HEB := Lib.hid hi.edgesB
  have HW := Lib.hid (show ∀ o1, Grow w (w.alloc o1) from fun o1 => (Grow.rfl' w).allocd o1)
  obtain ⟨iP, hiP, hzP0, hzP1, hzP2⟩ := info_parts infoProp
  clear h hg hf hi hx
  go_enter Tryz.func64, Tryz.ntmps64
  go_wp2_with fail
  refine (graphGetNode S B G id _ (HRD.out.grow (HW.out _)) HSN.out (by have := HIT.out; omega) HPN.out).mono ?_
  rintro e w2 ⟨hn, hg2⟩
  have HG2 := Lib.hid ((HW.out _).step hg2)
  have hz : w2.heap.size ≥ w.heap.size + 1 := by have := hg2.size; simpa using this
  have HR2 := Lib.hid ((hg2.heapEq (by simp)).trans (heap_alloc_new w (.cells #[.int .i64 0, .int .i64 0, .string ByteArray.empty] 33)))
  clear hg2
  rcases hn with ⟨hfn, rfl⟩ | ⟨x, pv, hfn, rfl, hpv⟩
  · have HFN := Lib.hid hfn; clear hfn
    go_wp2_with fail
    refine (graphGetEdge S B G id _ (HRD.out.grow (HG2.out.step ((Grow.rfl' _).allocd _))) HSE.out (by have := HIT.out; omega) HPE.out).mono ?_
    rintro e w3 ⟨he, hg3⟩
    have HG3 := Lib.hid ((HG2.out.step ((Grow.rfl' _).allocd _)).step hg3)
    have HR3 := Lib.hid (show w3.heap[w.heap.size]? = some (.cells #[.int .i64 0, .int .i64 0, .string ByteArray.empty] 33 (0, 0)) from (hg3.heapEq (by simp; omega)).trans ((((Grow.rfl' w2).allocd _).heapEq (by omega)).trans HR2.out))
    have n2 : ∀ o1, (w3.alloc o1).cell? ⟨w2.heap.size, 2, none⟩ = some (.slice none 0 0) := fun o1 => (blk_cell (((hg3.step ((Grow.rfl' _).allocd o1)).heapEq (by simp)).trans (heap_alloc_new w2 _)) 2).trans rfl
    have hz3 : w2.heap.size < w3.heap.size := by have := hg3.size; simp at this; omega
    clear hg3
    rcases he with ⟨hfe, rfl⟩ | ⟨x, pv, hfe, rfl, hpv⟩
    · have h1 := HF.out
      unfold findP at h1
      rw [HFN.out, hfe] at h1
      cases h1
    · have hps : x.props = ps := by
        have h1 := HF.out
        unfold findP at h1
        rw [HFN.out, hfe] at h1
        simpa using h1
      subst hps
      have hx8 : x.props.length ≤ 8 := (HEB.out x (List.mem_of_find?_eq_some hfe)).2.2
      have HPV := Lib.hid hpv
      have HRP := Lib.hid (show ∀ o1, Rd (w3.alloc o1) 4 pv x.props.length (x.props.map PProp.cells).flatten from fun o1 => hpv.rd.grow ((Grow.rfl' _).allocd o1))
      obtain ⟨pa, pc, rfl⟩ := hpv.isSlice
      have HG3a := Lib.hid (show ∀ o1, Grow w (w3.alloc o1) from fun o1 => HG3.out.step ((Grow.rfl' _).allocd o1))
      clear hpv hfe
      go_wp2_with (at_builtin; go_must (refine wpList_append_S _ rfl (.tmp 27) (.tmp 29) 87 rfl 105 iP _ 4 48 Tryz.underlying87 hiP hzP0 hzP1 hzP2 rfl (by decide) (.slice none 0 0) 0 [] none rfl (OwnS.nil _ _ _) (.slice pa x.props.length pc) rfl x.props.length _ (HRP.out _) (oneCell_props _) (by unfold maxLen; omega) (by omega) ?_))
      intro v4 w4 ob4 k1 k2 k3 _
      have hg4 : Grow w w4 := (HG3a.out _).modd k2 (fun b hb => by cases hb)
      have k1 : OwnS w4 105 4 v4 x.props.length (x.props.map PProp.cells).flatten ob4 := by simpa using k1
      have HPR4 := Lib.hid (propsOwn k1)
      have HR4 := Lib.hid (show w4.heap[w.heap.size]? = some (.cells #[.int .i64 0, .int .i64 0, .string ByteArray.empty] 33 (0, 0)) from by
        have e1 := k2.block w.heap.size (by simp; omega) (by simp)
        rw [e1]
        exact (((Grow.rfl' w3).allocd _).heapEq (by omega)).trans HR3.out)
      have HG4 := Lib.hid hg4
      clear k1 k2 k3 hg4
      obtain ⟨pa4, pc4, rfl⟩ := HPR4.out.isSlice
      go_wp2_with fail
      refine (valGet (fun _ => True) _ x.props name _ HPR4.out).mono ?_
      rintro e w5 ⟨rfl, hg5⟩
      have HR5 := Lib.hid ((hg5.heapEq (blk_lt HR4.out)).trans HR4.out)
      have HG5 := Lib.hid (HG4.out.step hg5)
      have hr5 : w.heap.size < w5.heap.size := blk_lt HR5.out
      have r0 : w5.cell? ⟨w.heap.size, 0, none⟩ = some (.int .i64 0) := (blk_cell HR5.out 0).trans rfl
      have r1 : w5.cell? ⟨w.heap.size, 1, none⟩ = some (.int .i64 0) := (blk_cell HR5.out 1).trans rfl
      have r2 : w5.cell? ⟨w.heap.size, 2, none⟩ = some (.string ByteArray.empty) := (blk_cell HR5.out 2).trans rfl
      have rf : ∀ i, w5.frozen? ⟨w.heap.size, i, none⟩ = false := fun i => blk_free HR5.out i
      generalize hu : getV x.props name = u at *
      have HU := Lib.hid hu
      clear hu
      generalize (getP x.props name).isSome = ub at *
      clear hg5
      go_wp2
      refine bodyPost_ret (v := .agg #[.int .i64 u.kind, .int .i64 u.n, .string u.s]) ?_ rfl ⟨by rw [HU.out], ?_⟩
      · rw [results_cell1 rfl]
        go_simp
      · exact (((HG5.out.setd (p := ⟨w.heap.size, 0, none⟩) (Nat.le_refl _) _).setd (p := ⟨w.heap.size, 1, none⟩) (Nat.le_refl _) _).setd (p := ⟨w.heap.size, 2, none⟩) (Nat.le_refl _) _).allocd _
  · have hps : x.props = ps := by
      have h1 := HF.out
      unfold findP at h1
      rw [hfn] at h1
      simpa using h1
    subst hps
    have hxm := List.mem_of_find?_eq_some hfn
    have hxi : x.id = id := by simpa using List.find?_some hfn
    have hx8 : x.props.length ≤ 8 := (HNB.out x hxm).2.2
    have HPV := Lib.hid hpv
    obtain ⟨pa, pc, hpe, hpl, -⟩ := SlR.open hpv
    subst hpe
    have HXM := Lib.hid (show ∃ y ∈ G.nodes, y.id = id from ⟨x, hxm, hxi⟩)
    have hbx := heap_alloc_new w2 (.cells #[.int .i64 x.id, .string x.typ, .slice pa x.props.length pc] 89)
    have HBX := Lib.hid hbx
    clear hpv hfn hxm hxi hbx
    go_wp2_with fail
    refine (graphGetEdge S B G id _ (HRD.out.grow (HG2.out.step ((Grow.rfl' _).allocd _))) HSE.out (by have := HIT.out; omega) HPE.out).mono ?_
    rintro e w3 ⟨he, hg3⟩
    have HG3 := Lib.hid ((HG2.out.step ((Grow.rfl' _).allocd _)).step hg3)
    have n2 : ∀ o1, (w3.alloc o1).cell? ⟨w2.heap.size, 2, none⟩ = some (.slice pa x.props.length pc) := fun o1 => (blk_cell (((hg3.step ((Grow.rfl' _).allocd o1)).heapEq (by simp)).trans HBX.out) 2).trans rfl
    have hz3 : w2.heap.size < w3.heap.size := by have := hg3.size; simp at this; omega
    have HR3 := Lib.hid (show w3.heap[w.heap.size]? = some (.cells #[.int .i64 0, .int .i64 0, .string ByteArray.empty] 33 (0, 0)) from (hg3.heapEq (by simp; omega)).trans ((((Grow.rfl' w2).allocd _).heapEq (by omega)).trans HR2.out))
    have HPV3 := Lib.hid (HPV.out.grow (((Grow.rfl' w2).allocd _).step hg3))
    rcases he with ⟨hfe, rfl⟩ | ⟨y, qv, hfe, rfl, hqv⟩
    · clear hg3 hfe
      have HR4 := Lib.hid (show ∀ o1, (w3.alloc o1).heap[w.heap.size]? = some (.cells #[.int .i64 0, .int .i64 0, .string ByteArray.empty] 33 (0, 0)) from fun o1 => (((Grow.rfl' w3).allocd o1).heapEq (by omega)).trans HR3.out)
      have HG4 := Lib.hid (show ∀ o1, Grow w (w3.alloc o1) from fun o1 => HG3.out.step ((Grow.rfl' _).allocd o1))
      have HPR4 := Lib.hid (show ∀ o1, PropsR (fun _ => True) (w3.alloc o1) (.slice pa x.props.length pc) x.props from fun o1 => (HPV3.out.grow ((Grow.rfl' _).allocd o1)).sub (fun _ _ => trivial))
      go_wp2_with (at_builtin; go_must (refine wpList_append_0 _ rfl (.tmp 27) (.tmp 29) 87 rfl 105 iP Tryz.underlying87 hiP pa x.props.length pc hpl rfl rfl ?_))
      replace HR4 := Lib.hid (HR4.out (.cells #[.int .i64 0, .string ByteArray.empty, .int .i64 0, .int .i64 0, .slice none 0 0] 91))
      replace HG4 := Lib.hid (HG4.out (.cells #[.int .i64 0, .string ByteArray.empty, .int .i64 0, .int .i64 0, .slice none 0 0] 91))
      replace HPR4 := Lib.hid (HPR4.out (.cells #[.int .i64 0, .string ByteArray.empty, .int .i64 0, .int .i64 0, .slice none 0 0] 91))
      go_wp2_with fail
      refine (valGet (fun _ => True) _ x.props name _ HPR4.out).mono ?_
      rintro e w5 ⟨rfl, hg5⟩
      have HR5 := Lib.hid ((hg5.heapEq (blk_lt HR4.out)).trans HR4.out)
      have HG5 := Lib.hid (HG4.out.step hg5)
      have hr5 : w.heap.size < w5.heap.size := blk_lt HR5.out
      have r0 : w5.cell? ⟨w.heap.size, 0, none⟩ = some (.int .i64 0) := (blk_cell HR5.out 0).trans rfl
      have r1 : w5.cell? ⟨w.heap.size, 1, none⟩ = some (.int .i64 0) := (blk_cell HR5.out 1).trans rfl
      have r2 : w5.cell? ⟨w.heap.size, 2, none⟩ = some (.string ByteArray.empty) := (blk_cell HR5.out 2).trans rfl
      have rf : ∀ i, w5.frozen? ⟨w.heap.size, i, none⟩ = false := fun i => blk_free HR5.out i
      generalize hu : getV x.props name = u at *
      have HU := Lib.hid hu
      clear hu
      generalize (getP x.props name).isSome = ub at *
      clear hg5
      go_wp2
      refine bodyPost_ret (v := .agg #[.int .i64 u.kind, .int .i64 u.n, .string u.s]) ?_ rfl ⟨by rw [HU.out], ?_⟩
      · rw [results_cell1 rfl]
        go_simp
      · exact (((HG5.out.setd (p := ⟨w.heap.size, 0, none⟩) (Nat.le_refl _) _).setd (p := ⟨w.heap.size, 1, none⟩) (Nat.le_refl _) _).setd (p := ⟨w.heap.size, 2, none⟩) (Nat.le_refl _) _).allocd _
    · exfalso
      have h1 := (HX.out.edges y (List.mem_of_find?_eq_some hfe)).1
      have h2 : y.id = id := by simpa using List.find?_some hfe
      rw [h2, hasN_true.2 HXM.out] at h1
      cases h1
end Go.Hg
