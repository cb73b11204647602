/- hedgerowkeep.Value, Props: whether two are alike; hedgerowkeep.Node, Edge, Nodes, Edges: whether two are alike; Two graphs side by side, the program's and the reference's; hedgerowlaw17.Same of equal ones; The graph of wakes, of layer 18; law18.Made: a graph of changes, and the document's; A law's row: its argument of operations, opened; hedgerowlaw19.fair; steps; The graph that a trail goes back to: the plain words of UndoAll, UndoRedoes; What UndoAll and UndoRedoes share: a step's cells, the tail of a round, the Ids of what was done; Arguments: the steps of layer 19's laws; lists of bytes. Conditions: those that each theorem names. -/
import Derived.WalkKit
import Derived.WalkSpells
import Derived.WalkLawsBesides
import Derived.Lib.Hide
import Derived.BigQuiet
import Derived.Deep.LoopGhost
import Derived.Maps.OwnOps
import Derived.Maps.OwnSet
import Derived.Carry
import Derived.Test.YtfachjfohhhgeaaGreatRows
import Derived.Lib.SlKeysI
import Derived.Lib.SliceRun
import Derived.WideMake
import Derived.Deep.RegionLaw
import Derived.Lib.Overlaps
import Derived.Deep.RegionHeld3
import Derived.Laws.ResultCell
import Derived.Shelf.SlSortCmp.WholeK
import Derived.Laws.EntriesVeiled
import Derived.Deep.DeepCutAuto
import Derived.RowKit
import Derived.ReadAgain
import Derived.ChangeOld
import Derived.Deep.Slices
import Derived.OpenShut
import Derived.Deep.CutBlock
import Derived.Test.YtfachjfohhhgeaaGreatUdL
import Derived.Test.YtfachjfohhhgeaaGreatUdN
import Derived.Test.YtfachjfohhhgeaaGreatUdR
namespace Go.Hg
open Go.RowKit Go.Proofs

set_option maxHeartbeats 400000 in
theorem keepValue (a b : PVal) (w : World) :
    Calls Tryz.prog 81 #[.agg #[.int .i64 a.kind, .int .i64 a.n, .string a.s], .agg #[.int .i64 b.kind, .int .i64 b.n, .string b.s]] w fun e w' => e = .returned (.bool (decide (a = b))) ∧ Grow w w' := by
  obtain ⟨k, n, s⟩ := a
  obtain ⟨k', n', s'⟩ := b
  have hg : ∀ o1 o2, Grow w ((w.alloc o1).alloc o2) := fun o1 o2 => ((Grow.rfl' w).allocd o1).allocd o2
  go_enter Tryz.func81, Tryz.ntmps81
  go_wp2
  all_goals
    go_ret
    refine ⟨?_, hg _ _⟩
    simp [*]

set_option maxHeartbeats 400000 in
theorem keepProps (Sa Sb : Nat → Prop) (va vb : Value) (a b : List PProp) (w : World) (ha : PropsR Sa w va a) (hb : PropsR Sb w vb b) :
    Calls Tryz.prog 106 #[va, vb] w fun e w' => e = .returned (.bool (decide (a = b))) ∧ Grow w w' := by
  obtain ⟨aa, ca, rfl, hal, hac, hA⟩ := SlR.open ha
  obtain ⟨ab, cb, rfl, hbl, hbc, hB⟩ := SlR.open hb
  clear ha hb
  unfold maxLen at hac hbc
  have HA := Lib.hid hA; clear hA
  have HB := Lib.hid hB; clear hB
  by_cases hlen : a.length = b.length
  · have HL := Lib.hid hlen
    go_enter Tryz.func106, Tryz.ntmps106
    go_wp2
    clear hlen
    go_loopg [5] b.length (fun g i wr => ∃ k : Nat, k ≤ b.length ∧ g = b.length - k ∧ i = .int .i64 k ∧ a.take k = b.take k ∧ Grow w wr)
    case atStart => exact ⟨0, by omega, by omega, rfl, by simp, Grow.rfl' w⟩
    case round =>
      obtain ⟨k, hk, rfl, rfl, htk, hgr⟩ := hrel
      have HT := Lib.hid htk; clear htk
      by_cases hlt : k < b.length
      · have hlt' : k < a.length := by have := HL.out; omega
        obtain ⟨ba, oa, ra, rfl, hSa, hba, hRa, hca⟩ := HA.out k a[k] (List.getElem?_eq_getElem hlt')
        obtain ⟨bb, ob, rb, rfl, hSb, hbb, hRb, hcb⟩ := HB.out k b[k] (List.getElem?_eq_getElem hlt)
        obtain ⟨hba', a0, a1, a2, a3⟩ := hRa.at hba hgr hca
        obtain ⟨hbb', b0, b1, b2, b3⟩ := hRb.at hbb hgr hcb
        clear hca hcb hRa hRb hSa hSb hba hbb
        have ea : a.take (k + 1) = a.take k ++ [a[k]] := List.take_succ_eq_append_getElem hlt'
        have eb : b.take (k + 1) = b.take k ++ [b[k]] := List.take_succ_eq_append_getElem hlt
        have EA := Lib.hid ea
        have EB := Lib.hid eb
        clear ea eb
        have hne : ¬ a[k] = b[k] → ¬ a = b := fun h e => h (by subst e; rfl)
        have HNE := Lib.hid hne; clear hne
        generalize a[k] = pa at *
        generalize b[k] = pb at *
        cases hn : decide (pa.name = pb.name)
        · go_wp2_with fail
          refine wp_region_grow (by kernel_rfl) (by kernel_rfl) ?_
          repeat (first | go_big_quiet_skip | (go_big_quiet_want; go_big_quiet_op; go_big_quiet_on))
          refine wpQuiet_nil ?_
          intro w2 hw2
          go_wp2
          go_ret
          exact ⟨by rw [decide_eq_false (HNE.out (fun h => of_decide_eq_false hn (by rw [h])))]; rfl, hgr.step hw2⟩
        · cases hv : decide (pa.v = pb.v)
          all_goals
            go_wp2_with fail
            refine wp_region_grow (by kernel_rfl) (by kernel_rfl) ?_
            repeat (first | go_big_quiet_skip | (go_big_quiet_want; go_big_quiet_op; first | go_big_quiet_on | (apply Exists.intro; refine ⟨fun g => ?_, ?_⟩; (exact calls_gr (keepValue pa.v pb.v _)); go_big_quiet_on)))
            refine wpQuiet_nil ?_
            intro w2 hw2
            go_wp2
          · go_ret
            exact ⟨by rw [decide_eq_false (HNE.out (fun h => of_decide_eq_false hv (by rw [h])))]; rfl, hgr.step hw2⟩
          · go_roundg (b.length - (k + 1))
            case measure => omega
            case rel => exact ⟨k + 1, by omega, rfl, by go_num, by rw [EA.out, EB.out, HT.out, show pa = pb by cases pa; cases pb; simp_all], hgr.step hw2⟩
      · have hlt' : ¬ k < a.length := by have := HL.out; omega
        have hk' : k = b.length := by omega
        have hx : a = b := by
          have h1 := HT.out
          rw [List.take_of_length_le (by omega), List.take_of_length_le (by omega)] at h1
          exact h1
        have HX := Lib.hid hx; clear hx hk'
        go_wp2
        go_ret
        exact ⟨by rw [HX.out]; simp, hgr⟩
  · have hx : ¬ a = b := fun e => hlen (by rw [e])
    have HX := Lib.hid hx; clear hx
    have h1 : ¬ ((a.length : Int) = (b.length : Int)) := by omega
    go_enter Tryz.func106, Tryz.ntmps106
    go_wp2
    go_ret
    exact ⟨by rw [decide_eq_false HX.out]; rfl, Grow.rfl' w⟩
end Go.Hg

namespace Go.Hg
open Go.RowKit Go.Proofs

set_option maxHeartbeats 400000 in
theorem keepNode (Sa Sb : Nat → Prop) (a b : PNode) (pa pb : Value) (w : World) (ha : PropsR Sa w pa a.props) (hb : PropsR Sb w pb b.props) :
    Calls Tryz.prog 77 #[.agg #[.int .i64 a.id, .string a.typ, pa], .agg #[.int .i64 b.id, .string b.typ, pb]] w fun e w' => e = .returned (.bool (decide (a = b))) ∧ Grow w w' := by
  obtain ⟨i, t, p⟩ := a
  obtain ⟨i', t', p'⟩ := b
  have hg : ∀ o1 o2, Grow w ((w.alloc o1).alloc o2) := fun o1 o2 => ((Grow.rfl' w).allocd o1).allocd o2
  have KA := fun o1 o2 => PropsR.grow ha (hg o1 o2)
  have KB := fun o1 o2 => PropsR.grow hb (hg o1 o2)
  obtain ⟨aa, ca, rfl, -, -, -⟩ := SlR.open ha
  obtain ⟨ab, cb, rfl, -, -, -⟩ := SlR.open hb
  have HA := Lib.hid KA; have HB := Lib.hid KB; have HG := Lib.hid hg
  clear ha hb KA KB hg
  go_enter Tryz.func77, Tryz.ntmps77
  go_wp2_with (go_at_call 106; (with_reducible refine (keepProps Sa Sb _ _ p p' _ (HA.out _ _) (HB.out _ _)).mono ?_); rintro e w2 ⟨rfl, hw2⟩)
  all_goals
    go_ret
    refine ⟨?_, by first | exact HG.out _ _ | exact (HG.out _ _).step ‹_›⟩
    simp [*]

set_option maxHeartbeats 400000 in
theorem keepEdge (Sa Sb : Nat → Prop) (a b : PEdge) (pa pb : Value) (w : World) (ha : PropsR Sa w pa a.props) (hb : PropsR Sb w pb b.props) :
    Calls Tryz.prog 78 #[.agg #[.int .i64 a.id, .string a.typ, .int .i64 a.from_, .int .i64 a.to_, pa], .agg #[.int .i64 b.id, .string b.typ, .int .i64 b.from_, .int .i64 b.to_, pb]] w fun e w' => e = .returned (.bool (decide (a = b))) ∧ Grow w w' := by
  obtain ⟨i, t, f, o, p⟩ := a
  obtain ⟨i', t', f', o', p'⟩ := b
  have hg : ∀ o1 o2, Grow w ((w.alloc o1).alloc o2) := fun o1 o2 => ((Grow.rfl' w).allocd o1).allocd o2
  have KA := fun o1 o2 => PropsR.grow ha (hg o1 o2)
  have KB := fun o1 o2 => PropsR.grow hb (hg o1 o2)
  obtain ⟨aa, ca, rfl, -, -, -⟩ := SlR.open ha
  obtain ⟨ab, cb, rfl, -, -, -⟩ := SlR.open hb
  have HA := Lib.hid KA; have HB := Lib.hid KB; have HG := Lib.hid hg
  clear ha hb KA KB hg
  go_enter Tryz.func78, Tryz.ntmps78
  go_wp2_with (go_at_call 106; (with_reducible refine (keepProps Sa Sb _ _ p p' _ (HA.out _ _) (HB.out _ _)).mono ?_); rintro e w2 ⟨rfl, hw2⟩)
  all_goals
    go_ret
    refine ⟨?_, by first | exact HG.out _ _ | exact (HG.out _ _).step ‹_›⟩
    simp [*]

set_option maxHeartbeats 400000 in
theorem keepNodes (Sa Sb : Nat → Prop) (va vb : Value) (a b : List PNode) (w : World) (ha : NodesR Sa w va a) (hb : NodesR Sb w vb b) :
    Calls Tryz.prog 52 #[va, vb] w fun e w' => e = .returned (.bool (decide (a = b))) ∧ Grow w w' := by
  obtain ⟨aa, ca, rfl, hal, hac, hA⟩ := SlR.open ha
  obtain ⟨ab, cb, rfl, hbl, hbc, hB⟩ := SlR.open hb
  clear ha hb
  unfold maxLen at hac hbc
  have HA := Lib.hid hA; clear hA
  have HB := Lib.hid hB; clear hB
  by_cases hlen : a.length = b.length
  · have HL := Lib.hid hlen
    go_enter Tryz.func52, Tryz.ntmps52
    go_wp2
    clear hlen
    go_loopg [5] b.length (fun g i wr => ∃ k : Nat, k ≤ b.length ∧ g = b.length - k ∧ i = .int .i64 k ∧ a.take k = b.take k ∧ Grow w wr)
    case atStart => exact ⟨0, by omega, by omega, rfl, by simp, Grow.rfl' w⟩
    case round =>
      obtain ⟨k, hk, rfl, rfl, htk, hgr⟩ := hrel
      have HT := Lib.hid htk; clear htk
      by_cases hlt : k < b.length
      · have hlt' : k < a.length := by have := HL.out; omega
        obtain ⟨ba, oa, ra, rfl, hSa, hba, hRa, hca⟩ := HA.out k a[k] (List.getElem?_eq_getElem hlt')
        obtain ⟨bb, ob, rb, rfl, hSb, hbb, hRb, hcb⟩ := HB.out k b[k] (List.getElem?_eq_getElem hlt)
        obtain ⟨pva, hba', a0, a1, a2, hpa⟩ := hRa.at hba hgr hca
        obtain ⟨pvb, hbb', b0, b1, b2, hpb⟩ := hRb.at hbb hgr hcb
        clear hca hcb hRa hRb hSa hSb hba hbb
        have ea : a.take (k + 1) = a.take k ++ [a[k]] := List.take_succ_eq_append_getElem hlt'
        have eb : b.take (k + 1) = b.take k ++ [b[k]] := List.take_succ_eq_append_getElem hlt
        have EA := Lib.hid ea
        have EB := Lib.hid eb
        clear ea eb
        have hne : ¬ a[k] = b[k] → ¬ a = b := fun h e => h (by subst e; rfl)
        have HNE := Lib.hid hne; clear hne
        generalize a[k] = na at *
        generalize b[k] = nb at *
        have HPA := Lib.hid hpa
        have HPB := Lib.hid hpb
        obtain ⟨_, _, rfl⟩ := hpa.isSlice
        obtain ⟨_, _, rfl⟩ := hpb.isSlice
        clear hpa hpb
        cases hv : decide (na = nb)
        all_goals
          go_wp2_with fail
          refine wp_region_grow (by kernel_rfl) (by kernel_rfl) ?_
          repeat (go_big_quiet_step (exact calls_gr (keepNode Sa Sb na nb _ _ _ (HPA.out.grow (by rename_i g; exact g.h)) (HPB.out.grow (by rename_i g; exact g.h)))))
          refine wpQuiet_nil ?_
          intro w2 hw2
          go_wp2
        · go_ret
          exact ⟨by rw [decide_eq_false (HNE.out (of_decide_eq_false hv))]; rfl, hgr.step hw2⟩
        · go_roundg (b.length - (k + 1))
          case measure => omega
          case rel => exact ⟨k + 1, by omega, rfl, by go_num, by rw [EA.out, EB.out, HT.out, of_decide_eq_true hv], hgr.step hw2⟩
      · have hlt' : ¬ k < a.length := by have := HL.out; omega
        have hk' : k = b.length := by omega
        have hx : a = b := by
          have h1 := HT.out
          rw [List.take_of_length_le (by omega), List.take_of_length_le (by omega)] at h1
          exact h1
        have HX := Lib.hid hx; clear hx hk'
        go_wp2
        go_ret
        exact ⟨by rw [HX.out]; simp, hgr⟩
  · have hx : ¬ a = b := fun e => hlen (by rw [e])
    have HX := Lib.hid hx; clear hx
    have h1 : ¬ ((a.length : Int) = (b.length : Int)) := by omega
    go_enter Tryz.func52, Tryz.ntmps52
    go_wp2
    go_ret
    exact ⟨by rw [decide_eq_false HX.out]; rfl, Grow.rfl' w⟩

set_option maxHeartbeats 400000 in
theorem keepEdges (Sa Sb : Nat → Prop) (va vb : Value) (a b : List PEdge) (w : World) (ha : EdgesR Sa w va a) (hb : EdgesR Sb w vb b) :
    Calls Tryz.prog 53 #[va, vb] w fun e w' => e = .returned (.bool (decide (a = b))) ∧ Grow w w' := by
  obtain ⟨aa, ca, rfl, hal, hac, hA⟩ := SlR.open ha
  obtain ⟨ab, cb, rfl, hbl, hbc, hB⟩ := SlR.open hb
  clear ha hb
  unfold maxLen at hac hbc
  have HA := Lib.hid hA; clear hA
  have HB := Lib.hid hB; clear hB
  by_cases hlen : a.length = b.length
  · have HL := Lib.hid hlen
    go_enter Tryz.func53, Tryz.ntmps53
    go_wp2
    clear hlen
    go_loopg [5] b.length (fun g i wr => ∃ k : Nat, k ≤ b.length ∧ g = b.length - k ∧ i = .int .i64 k ∧ a.take k = b.take k ∧ Grow w wr)
    case atStart => exact ⟨0, by omega, by omega, rfl, by simp, Grow.rfl' w⟩
    case round =>
      obtain ⟨k, hk, rfl, rfl, htk, hgr⟩ := hrel
      have HT := Lib.hid htk; clear htk
      by_cases hlt : k < b.length
      · have hlt' : k < a.length := by have := HL.out; omega
        obtain ⟨ba, oa, ra, rfl, hSa, hba, hRa, hca⟩ := HA.out k a[k] (List.getElem?_eq_getElem hlt')
        obtain ⟨bb, ob, rb, rfl, hSb, hbb, hRb, hcb⟩ := HB.out k b[k] (List.getElem?_eq_getElem hlt)
        obtain ⟨pva, hba', a0, a1, a2, a3, a4, hpa⟩ := hRa.at hba hgr hca
        obtain ⟨pvb, hbb', b0, b1, b2, b3, b4, hpb⟩ := hRb.at hbb hgr hcb
        clear hca hcb hRa hRb hSa hSb hba hbb
        have ea : a.take (k + 1) = a.take k ++ [a[k]] := List.take_succ_eq_append_getElem hlt'
        have eb : b.take (k + 1) = b.take k ++ [b[k]] := List.take_succ_eq_append_getElem hlt
        have EA := Lib.hid ea
        have EB := Lib.hid eb
        clear ea eb
        have hne : ¬ a[k] = b[k] → ¬ a = b := fun h e => h (by subst e; rfl)
        have HNE := Lib.hid hne; clear hne
        generalize a[k] = na at *
        generalize b[k] = nb at *
        have HPA := Lib.hid hpa
        have HPB := Lib.hid hpb
        obtain ⟨_, _, rfl⟩ := hpa.isSlice
        obtain ⟨_, _, rfl⟩ := hpb.isSlice
        clear hpa hpb
        cases hv : decide (na = nb)
        all_goals
          go_wp2_with fail
          refine wp_region_grow (by kernel_rfl) (by kernel_rfl) ?_
          repeat (go_big_quiet_step (exact calls_gr (keepEdge Sa Sb na nb _ _ _ (HPA.out.grow (by rename_i g; exact g.h)) (HPB.out.grow (by rename_i g; exact g.h)))))
          refine wpQuiet_nil ?_
          intro w2 hw2
          go_wp2
        · go_ret
          exact ⟨by rw [decide_eq_false (HNE.out (of_decide_eq_false hv))]; rfl, hgr.step hw2⟩
        · go_roundg (b.length - (k + 1))
          case measure => omega
          case rel => exact ⟨k + 1, by omega, rfl, by go_num, by rw [EA.out, EB.out, HT.out, of_decide_eq_true hv], hgr.step hw2⟩
      · have hlt' : ¬ k < a.length := by have := HL.out; omega
        have hk' : k = b.length := by omega
        have hx : a = b := by
          have h1 := HT.out
          rw [List.take_of_length_le (by omega), List.take_of_length_le (by omega)] at h1
          exact h1
        have HX := Lib.hid hx; clear hx hk'
        go_wp2
        go_ret
        exact ⟨by rw [HX.out]; simp, hgr⟩
  · have hx : ¬ a = b := fun e => hlen (by rw [e])
    have HX := Lib.hid hx; clear hx
    have h1 : ¬ ((a.length : Int) = (b.length : Int)) := by omega
    go_enter Tryz.func53, Tryz.ntmps53
    go_wp2
    go_ret
    exact ⟨by rw [decide_eq_false HX.out]; rfl, Grow.rfl' w⟩

end Go.Hg

namespace Go.Hg
open Go.RowKit Go.Proofs

theorem Pair.swap {T1 T2 : TypeId} {w1 w : World} {B1 B2 : Nat} {G1 G2 : PGraph} (h : Pair T1 T2 w1 w B1 B2 G1 G2) : Pair T2 T1 w1 w B2 B1 G2 G1 := by
  obtain ⟨S1, S2, h1, h2, h3, h4, h5, h6⟩ := h
  exact ⟨S2, S1, h2, h1, fun b hb hb' => h3 b hb' hb, h5, h4, h6⟩
theorem Pair.grown {T1 T2 : TypeId} {w1 w : World} {B1 B2 : Nat} {G1 G2 : PGraph} (h : Pair T1 T2 w1 w B1 B2 G1 G2) : Grow w1 w := by
  obtain ⟨_, _, _, _, _, _, _, h⟩ := h; exact h
theorem Pair.step1 {T1 T2 : TypeId} {w1 w w' : World} {B1 B2 : Nat} {G2 G3 : PGraph} {S1 S2 : Nat → Prop} (h2 : GraphOk T2 S2 w B2 G2) (h3 : ∀ b, S1 b → ¬ S2 b) (h4 : ∀ b, S1 b → w1.heap.size ≤ b ∧ b < w.heap.size) (h5 : ∀ b, S2 b → w1.heap.size ≤ b ∧ b < w.heap.size) (h6 : Grow w1 w)
    (k1 : GraphOk T1 (fun b => S1 b ∨ w.heap.size ≤ b) w' B1 G3) (k2 : Mod S1 w w') : Pair T1 T2 w1 w' B1 B2 G3 G2 := by
  have hs := k2.size
  have h1s := h6.size
  refine ⟨fun b => (S1 b ∨ w.heap.size ≤ b) ∧ b < w'.heap.size, S2, k1.cut, h2.keep k2 (fun b hb hb' => h3 b hb' hb), fun b hb hb' => hb.1.elim (fun h => h3 b h hb') (fun h => by have := (h5 b hb').2; omega), fun b hb => ⟨hb.1.elim (fun h => (h4 b h).1) (fun h => by omega), hb.2⟩,
    fun b hb => ⟨(h5 b hb).1, by have := (h5 b hb).2; omega⟩, h6.modd k2 (fun b hb => (h4 b hb).1)⟩
theorem Pair.make {T1 T2 : TypeId} {w1 w2 w3 : World} {B1 B2 : Nat} {G1 G2 : PGraph} (h1 : GraphOk T1 (fun b => w1.heap.size ≤ b) w2 B1 G1) (g1 : Grow w1 w2) (h2 : GraphOk T2 (fun b => w2.heap.size ≤ b) w3 B2 G2) (g2 : Grow w2 w3) : Pair T1 T2 w1 w3 B1 B2 G1 G2 := by
  have hs := g1.size; have hs2 := g2.size
  refine ⟨fun b => w1.heap.size ≤ b ∧ b < w2.heap.size, fun b => w2.heap.size ≤ b ∧ b < w3.heap.size, h1.cut.grow g2, h2.cut, fun b hb hb' => by omega, fun b hb => ⟨hb.1, by omega⟩, fun b hb => ⟨by omega, hb.2⟩, g1.step g2⟩

theorem pairDo1 {T2 : TypeId} (SC : Nat → Prop) (B1 B2 : Nat) (G1 G2 : PGraph) (nv ev rv iv : Value) (c : PCat) (o : POp) (w1 w : World) (h : Pair 101 T2 w1 w B1 B2 G1 G2) (hG : GInv G1) (hc : CatR SC w nv ev rv iv c) :
    Calls Tryz.prog 37 #[.pointer (some ⟨B1, 0, none⟩), c.arg nv ev rv iv, o.args] w fun e w' =>
      e = .returned (.tuple #[.int .i64 (if mayG c o G1 = 0 then idG o G1 else 0), .int .i64 (mayG c o G1)]) ∧ Pair 101 T2 w1 w' B1 B2 (stepG c o G1) G2 := by
  obtain ⟨S1, S2, h1, h2, h3, h4, h5, h6⟩ := h
  exact (graphDo S1 SC B1 G1 nv ev rv iv c o w h1 hG hc).mono fun _ _ ⟨k1, k2, k3⟩ => ⟨k1, Pair.step1 h2 h3 h4 h5 h6 k2 k3⟩
theorem pairDo2 {T2 : TypeId} (SC : Nat → Prop) (B1 B2 : Nat) (G1 G2 : PGraph) (nv ev rv iv : Value) (c : PCat) (o : POp) (w1 w : World) (h : Pair T2 86 w1 w B1 B2 G1 G2) (hG : GInv G2) (hc : CatR SC w nv ev rv iv c) :
    Calls Tryz.prog 18 #[.pointer (some ⟨B2, 0, none⟩), c.arg nv ev rv iv, o.args] w fun e w' =>
      e = .returned (.tuple #[.int .i64 (if mayG c o G2 = 0 then idG o G2 else 0), .int .i64 (mayG c o G2)]) ∧ Pair T2 86 w1 w' B1 B2 G1 (stepG c o G2) := by
  obtain ⟨S1, S2, h1, h2, h3, h4, h5, h6⟩ := h
  exact (refDo S2 SC B2 G2 nv ev rv iv c o w h2 hG hc).mono fun _ _ ⟨k1, k2, k3⟩ => ⟨k1, (Pair.step1 h1 (fun b hb hb' => h3 b hb' hb) h5 h4 h6 k2 k3).swap⟩

theorem keepNodesSame (Sa Sb : Nat → Prop) (va vb : Value) (a : List PNode) (w : World) (ha : NodesR Sa w va a) (hb : NodesR Sb w vb a) :
    Calls Tryz.prog 52 #[va, vb] w fun e w' => e = .returned (.bool true) ∧ Grow w w' :=
  (keepNodes Sa Sb va vb a a w ha hb).mono fun e w' ⟨h, g⟩ => ⟨by rw [h, decide_eq_true rfl], g⟩
theorem keepEdgesSame (Sa Sb : Nat → Prop) (va vb : Value) (a : List PEdge) (w : World) (ha : EdgesR Sa w va a) (hb : EdgesR Sb w vb a) :
    Calls Tryz.prog 53 #[va, vb] w fun e w' => e = .returned (.bool true) ∧ Grow w w' :=
  (keepEdges Sa Sb va vb a a w ha hb).mono fun e w' ⟨h, g⟩ => ⟨by rw [h, decide_eq_true rfl], g⟩
set_option maxRecDepth 100000 in
set_option maxHeartbeats 4000000 in
theorem lawSame (S1 S2 : Nat → Prop) (B1 B2 : Nat) (G : PGraph) (w : World) (h1 : GraphOk 101 S1 w B1 G) (h2 : GraphOk 86 S2 w B2 G) (hi : GInv G) :
    Calls Tryz.prog 19 #[.pointer (some ⟨B1, 0, none⟩), .pointer (some ⟨B2, 0, none⟩)] w fun e w' => e = .returned (.bool true) ∧ Grow w w' := by
  have H1 := Lib.hid h1; have H2 := Lib.hid h2; have HI := Lib.hid hi
  have HNL := Lib.hid (show G.nodes.length ≤ 1099511627776 by have := hi.items; omega)
  have HEL := Lib.hid (show G.edges.length ≤ 1099511627776 by have := hi.items; omega)
  have HNP := Lib.hid (show ∀ x ∈ G.nodes, x.props.length ≤ 1099511627776 from fun x hx => by have := (hi.nodesB x hx).2.2; omega)
  have HEP := Lib.hid (show ∀ x ∈ G.edges, x.props.length ≤ 1099511627776 from fun x hx => by have := (hi.edgesB x hx).2.2; omega)
  obtain ⟨na, nc, ea, ec, hB, c0, c1, c2, hn, he⟩ := h2.rd.read
  have HN := Lib.hid hn; have HE := Lib.hid he
  have HS := Lib.hid (show ∀ w', Grow w w' → (w'.cell? ⟨B2, 0, none⟩ = some (.slice na G.nodes.length nc) ∧ w'.cell? ⟨B2, 1, none⟩ = some (.slice ea G.edges.length ec) ∧ w'.cell? ⟨B2, 2, none⟩ = some (.int .i64 G.next)) from fun w' hg =>
    ⟨(hg.cell (p := ⟨B2, 0, none⟩) hB).trans c0, (hg.cell (p := ⟨B2, 1, none⟩) hB).trans c1, (hg.cell (p := ⟨B2, 2, none⟩) hB).trans c2⟩)
  have HD := Lib.hid (show Grow w w.drew from (Grow.rfl' w).drewd)
  clear h1 h2 hi hn he c0 c1 c2 hB
  go_enter Tryz.func19, Tryz.ntmps19
  go_wp2_with fail
  go_region_held3 (fun w' => w'.cell? ⟨B2, 0, none⟩ = some (.slice na G.nodes.length nc) ∧ w'.cell? ⟨B2, 1, none⟩ = some (.slice ea G.edges.length ec) ∧ w'.cell? ⟨B2, 2, none⟩ = some (.int .i64 G.next)) (first | exact HS.out _ HD.out | exact HS.out _ HG3.out | exact HS.out _ HG4.out | exact HS.out _ HG5.out | exact HS.out _ HG6.out) (first | (go_at_call 23; refine (graphNodes S1 B1 G _ (H1.out.rd.grow HD.out) HNL.out HNP.out).mono ?_; rintro e w3 ⟨v3, on, rfl, hon, -, hg3⟩; have HG3 := Lib.hid (HD.out.step hg3); have HON := Lib.hid (show NodesR (fun _ => True) w3 v3 G.nodes from SlR.sub (hon.toSl (S := fun _ => True) (fun _ _ => trivial)) (fun _ h => h) (fun x r _ hR => hR.sub (fun _ _ => trivial))); obtain ⟨a3, c3, rfl⟩ : ∃ a c, v3 = .slice a G.nodes.length c := (by obtain ⟨_, _, _, h⟩ := hon; obtain ⟨oa, cap, h, _⟩ := h.isSlice; exact ⟨oa, cap, h⟩); clear hon hg3) | (go_at_call 52; refine (keepNodesSame _ _ _ _ G.nodes _ HON.out (HN.out.grow HG3.out)).mono ?_; rintro e w4 ⟨rfl, hg4⟩; have HG4 := Lib.hid (HG3.out.step hg4); clear hg4) | (go_at_call 54; refine (graphEdges S1 B1 G _ (H1.out.rd.grow HG4.out) HEL.out HEP.out).mono ?_; rintro e w5 ⟨v5, oe, rfl, hoe, -, hg5⟩; have HG5 := Lib.hid (HG4.out.step hg5); have HOE := Lib.hid (show EdgesR (fun _ => True) w5 v5 G.edges from SlR.sub (hoe.toSl (S := fun _ => True) (fun _ _ => trivial)) (fun _ h => h) (fun x r _ hR => hR.sub (fun _ _ => trivial))); obtain ⟨a5, c5, rfl⟩ : ∃ a c, v5 = .slice a G.edges.length c := (by obtain ⟨_, _, _, h⟩ := hoe; obtain ⟨oa, cap, h, _⟩ := h.isSlice; exact ⟨oa, cap, h⟩); clear hoe hg5) | (go_at_call 53; refine (keepEdgesSame _ _ _ _ G.edges _ HOE.out (HE.out.grow HG5.out)).mono ?_; rintro e w6 ⟨rfl, hg6⟩; have HG6 := Lib.hid (HG5.out.step hg6); clear hg6) | (go_at_call 24; refine (graphNext S1 B1 G _ (H1.out.grow HG6.out)).mono ?_; rintro e w7 ⟨rfl, rfl⟩))
  go_wp2
  go_ret
  exact ⟨rfl, HG6.out⟩
end Go.Hg

namespace Go.Hg
def madeK (k : Nat) (l : List POp) : PGraph := (l.take k).foldl (fun G o => stepG typesC o G) PGraph.empty
def madeG (l : List POp) : PGraph := madeK 60 l
theorem madeK_succ {l : List POp} {k : Nat} (hk : k < l.length) : madeK (k + 1) l = stepG typesC l[k] (madeK k l) := by
  unfold madeK
  rw [List.take_succ_eq_append_getElem hk, List.foldl_append]
  rfl
theorem madeK_full {l : List POp} {k : Nat} (h : l.length ≤ k ∨ 60 ≤ k) (hk : k ≤ 60) : madeK k l = madeG l := by
  unfold madeG madeK
  rcases h with h | h
  · rw [List.take_of_length_le h, List.take_of_length_le (by omega)]
  · have : k = 60 := by omega
    rw [this]
theorem madeK_inv (l : List POp) (k : Nat) : GInv (madeK k l) := by
  unfold madeK
  generalize l.take k = m
  have key : ∀ (m : List POp) (G : PGraph), GInv G → GInv (m.foldl (fun G o => stepG typesC o G) G) := by
    intro m
    induction m with
    | nil => exact fun G h => h
    | cons a t ih => exact fun G h => ih _ h.stepG
  exact key m _ GInv.empty
theorem madeK_good (l : List POp) (k : Nat) : goodG (madeK k l) = true := by
  unfold madeK
  generalize l.take k = m
  have key : ∀ (m : List POp) (G : PGraph), goodG G = true → goodG (m.foldl (fun G o => stepG typesC o G) G) = true := by
    intro m
    induction m with
    | nil => exact fun G h => h
    | cons a t ih => exact fun G h => ih _ (goodG_step typesC_names h)
  exact key m _ goodG_empty
end Go.Hg

namespace Go.Hg
open Go.RowKit Go.Proofs

def MadePost (l : List POp) (w : World) (e : Ending) (w' : World) : Prop :=
  (fairOps l = false ∧ e = .returned (.tuple #[.pointer none, .pointer none, .bool false]) ∧ Grow w w') ∨
  (fairOps l = true ∧ ∃ (B1 B2 : Nat), e = .returned (.tuple #[.pointer (some ⟨B1, 0, none⟩), .pointer (some ⟨B2, 0, none⟩), .bool true]) ∧ Pair 101 86 w w' B1 B2 (madeG l) (madeG l))

set_option maxRecDepth 100000 in
set_option maxHeartbeats 8000000 in
theorem lawMade (S : Nat → Prop) (v : Value) (l : List POp) (w : World) (hl : OpsR S w v l) : Calls Tryz.prog 9 #[v] w (MadePost l w) := by
  have HL := Lib.hid hl
  obtain ⟨aa, ca, rfl, hal, hac, hA⟩ := SlR.open hl
  clear hl
  unfold maxLen at hac
  have HA := Lib.hid hA; clear hA
  go_enter Tryz.func9, Tryz.ntmps9
  go_wp2_with fail
  refine (graphNew _).mono ?_
  rintro e w3 ⟨B1, rfl, hgr, hg3⟩
  have HGR3 := Lib.hid hgr; have HG3 := Lib.hid hg3
  clear hgr hg3
  go_wp2_with fail
  refine (refNew _).mono ?_
  rintro e w4 ⟨B2, rfl, hgr, hg4⟩
  have HPR := Lib.hid (Pair.make HGR3.out HG3.out hgr hg4)
  have HG4 := Lib.hid (HG3.out.step hg4)
  clear hgr hg4 HGR3 HG3
  go_wp2_with fail
  refine (lawFair S _ l _ (HL.out.growS HG4.out)).mono ?_
  rintro e w2 ⟨rfl, hg2⟩
  have HP2 := Lib.hid (HPR.out.grow hg2)
  have HG2 := Lib.hid (HG4.out.step hg2)
  clear hg2 HPR HG4
  cases hf : fairOps l
  · have HF := Lib.hid hf
    clear hf
    go_wp2
    go_ret3
    exact .inl ⟨HF.out, rfl, HG2.out⟩
  have HF := Lib.hid hf
  clear hf
  go_wp2
  go_loopg [7] (l.length + 1) (fun g i wr => ∃ (k : Nat), k ≤ l.length ∧ k ≤ 60 ∧ g = l.length + 1 - k ∧ i = .int .i64 k ∧ Pair 101 86 w wr B1 B2 (madeK k l) (madeK k l))
  case atStart => exact ⟨0, by omega, by omega, by omega, rfl, HP2.out⟩
  case round =>
    obtain ⟨k, hk, hk60, rfl, rfl, hpr⟩ := hrel
    have HP := Lib.hid hpr
    clear hpr HP2
    have HGK := Lib.hid HP.out.grown
    by_cases hkl : k < l.length
    · by_cases hk6 : k < 60
      · have HMK := Lib.hid (madeK_succ hkl)
        have HI := Lib.hid (madeK_inv l k)
        generalize madeK k l = G at *
        obtain ⟨ba, oa, ra, rfl, hSa, hba, hRa, hca⟩ := HA.out k l[k] (List.getElem?_eq_getElem hkl)
        have HS := Lib.hid (show ∀ w', Grow w w' → (w'.cell? ⟨ba, oa + k * 10, none⟩ = some (.int .i64 l[k].kind) ∧ w'.cell? ⟨ba, oa + k * 10 + 1, none⟩ = some (.int .i64 l[k].id) ∧ w'.cell? ⟨ba, oa + k * 10 + 2, none⟩ = some (.string l[k].typ) ∧ w'.cell? ⟨ba, oa + k * 10 + 3, none⟩ = some (.int .i64 l[k].from_) ∧ w'.cell? ⟨ba, oa + k * 10 + 4, none⟩ = some (.int .i64 l[k].to_) ∧ w'.cell? ⟨ba, oa + k * 10 + 5, none⟩ = some (.string l[k].name) ∧ w'.cell? ⟨ba, oa + k * 10 + 6, none⟩ = some (.int .i64 l[k].v.kind) ∧ w'.cell? ⟨ba, oa + k * 10 + 7, none⟩ = some (.int .i64 l[k].v.n) ∧ w'.cell? ⟨ba, oa + k * 10 + 8, none⟩ = some (.string l[k].v.s) ∧ w'.cell? ⟨ba, oa + k * 10 + 9, none⟩ = some (.bool l[k].cascade)) from fun w' hg' => (opCells hRa hba hg' hca).2)
        clear hca hRa hSa hba
        generalize l[k] = o at *
        have HD := Lib.hid (show Grow w wr.drew from HP.out.grown.drewd)
        have HPD := Lib.hid (HP.out.grow ((Grow.rfl' wr).drewd))
        go_wp2_with fail
        go_region_held3 (fun w' => w'.cell? ⟨ba, oa + k * 10, none⟩ = some (.int .i64 o.kind) ∧ w'.cell? ⟨ba, oa + k * 10 + 1, none⟩ = some (.int .i64 o.id) ∧ w'.cell? ⟨ba, oa + k * 10 + 2, none⟩ = some (.string o.typ) ∧ w'.cell? ⟨ba, oa + k * 10 + 3, none⟩ = some (.int .i64 o.from_) ∧ w'.cell? ⟨ba, oa + k * 10 + 4, none⟩ = some (.int .i64 o.to_) ∧ w'.cell? ⟨ba, oa + k * 10 + 5, none⟩ = some (.string o.name) ∧ w'.cell? ⟨ba, oa + k * 10 + 6, none⟩ = some (.int .i64 o.v.kind) ∧ w'.cell? ⟨ba, oa + k * 10 + 7, none⟩ = some (.int .i64 o.v.n) ∧ w'.cell? ⟨ba, oa + k * 10 + 8, none⟩ = some (.string o.v.s) ∧ w'.cell? ⟨ba, oa + k * 10 + 9, none⟩ = some (.bool o.cascade)) (first | exact HS.out _ HD.out | exact HS.out _ HT3.out | exact HS.out _ HP4.out.grown) (first | (go_at_call 14; refine (lawTypes _).mono ?_; rintro e wt3 ⟨nv, ev, rfl, hc, hg3⟩; have HC := Lib.hid hc; have HT3 := Lib.hid (HD.out.step hg3); have HTG3 := Lib.hid hg3; obtain ⟨na, nc, ea, ec, ra, rc, ia, ic, rfl, rfl, -, -⟩ := hc.slices; clear hc hg3) | (go_at_call 37; refine (pairDo1 _ B1 B2 G G _ _ _ _ typesC o w _ (HPD.out.grow HTG3.out) HI.out HC.out).mono ?_; rintro e wd4 ⟨rfl, hp4⟩; have HP4 := Lib.hid hp4; clear hp4; generalize (if mayG typesC o G = 0 then idG o G else 0) = rid; generalize mayG typesC o G = rer))
        have HD5 := Lib.hid (show Grow w wd4.drew from HP4.out.grown.drewd)
        have HPD5 := Lib.hid (HP4.out.grow ((Grow.rfl' wd4).drewd))
        go_wp2_with fail
        go_region_held3 (fun w' => w'.cell? ⟨ba, oa + k * 10, none⟩ = some (.int .i64 o.kind) ∧ w'.cell? ⟨ba, oa + k * 10 + 1, none⟩ = some (.int .i64 o.id) ∧ w'.cell? ⟨ba, oa + k * 10 + 2, none⟩ = some (.string o.typ) ∧ w'.cell? ⟨ba, oa + k * 10 + 3, none⟩ = some (.int .i64 o.from_) ∧ w'.cell? ⟨ba, oa + k * 10 + 4, none⟩ = some (.int .i64 o.to_) ∧ w'.cell? ⟨ba, oa + k * 10 + 5, none⟩ = some (.string o.name) ∧ w'.cell? ⟨ba, oa + k * 10 + 6, none⟩ = some (.int .i64 o.v.kind) ∧ w'.cell? ⟨ba, oa + k * 10 + 7, none⟩ = some (.int .i64 o.v.n) ∧ w'.cell? ⟨ba, oa + k * 10 + 8, none⟩ = some (.string o.v.s) ∧ w'.cell? ⟨ba, oa + k * 10 + 9, none⟩ = some (.bool o.cascade)) (first | exact HS.out _ HD5.out | exact HS.out _ HT5.out | exact HS.out _ HP6.out.grown) (first | (go_at_call 14; refine (lawTypes _).mono ?_; rintro e wt5 ⟨nv, ev, rfl, hc, hg3⟩; have HC := Lib.hid hc; have HT5 := Lib.hid (HD5.out.step hg3); have HTG5 := Lib.hid hg3; obtain ⟨na, nc, ea, ec, ra, rc, ia, ic, rfl, rfl, -, -⟩ := hc.slices; clear hc hg3) | (go_at_call 18; refine (pairDo2 _ B1 B2 (stepG typesC o G) G _ _ _ _ typesC o w _ (HPD5.out.grow HTG5.out) HI.out HC.out).mono ?_; rintro e wd6 ⟨rfl, hp6⟩; have HP6 := Lib.hid hp6; clear hp6; generalize (if mayG typesC o G = 0 then idG o G else 0) = rid2; generalize mayG typesC o G = rer2))
        go_wp2_with fail
        go_roundg (l.length + 1 - (k + 1))
        case measure => omega
        case rel => exact ⟨k + 1, by omega, by omega, rfl, by go_num, by rw [HMK.out]; exact HP6.out⟩
      · have HM := Lib.hid (madeK_full (l := l) (k := k) (.inr (by omega)) hk60)
        go_wp2
        go_ret3
        exact .inr ⟨HF.out, B1, B2, rfl, HM.out ▸ HP.out⟩
    · have HM := Lib.hid (madeK_full (l := l) (k := k) (.inl (by omega)) hk60)
      go_wp2
      go_ret3
      exact .inr ⟨HF.out, B1, B2, rfl, HM.out ▸ HP.out⟩
end Go.Hg

namespace Go.Hg
open Go.RowKit Go.ChangeShapes Go.WideShapes Go.Deep Go.Proofs

theorem cellsOp : Tryz.prog.cellsOf 35 = 10 := by kernel_rfl
theorem cellsValue : Tryz.prog.cellsOf 33 = 3 := by kernel_rfl
theorem cellsI : Tryz.prog.cellsOf 3 = 1 := by kernel_rfl
theorem cellsI64 : Tryz.prog.cellsOf 2 = 1 := by kernel_rfl
theorem cellsStr : Tryz.prog.cellsOf 9 = 1 := by kernel_rfl
theorem cellsB : Tryz.prog.cellsOf 4 = 1 := by kernel_rfl

section
variable {H : Type} {enc : TypeId × Value → H} {W : World} {base : Nat} {sp : Nat → Bool} {held : Bool}
theorem list3 {α : Type} {l : List α} (h : l.length = 3) : ∃ a b c, l = [a, b, c] := by
  match l, h with
  | [a, b, c], _ => exact ⟨a, b, c, rfl⟩
theorem list10 {α : Type} {l : List α} (h : l.length = 10) : ∃ a b c d e f g i j k, l = [a, b, c, d, e, f, g, i, j, k] := by
  match l, h with
  | [a, b, c, d, e, f, g, i, j, k], _ => exact ⟨a, b, c, d, e, f, g, i, j, k, rfl⟩
theorem field_at {t : TypeId} {fs : Array Field} {n : Nat} {cs : List Value} {xs : List (DataW H × List MemPlace)} (hsz : xs.length = fs.size)
    (hf : ∀ (i : Nat) (f : Field), fs[i]? = some f → DataW.trod enc Tryz.prog W base sp held n f.type ((cs.drop f.offset).take (Tryz.prog.cellsOf f.type)) = xs[i]?) (i : Nat) {f : Field} (hi : fs[i]? = some f) (ht : f.type = t) {c o : Nat} (hc : Tryz.prog.cellsOf t = c) (ho : f.offset = o) :
    ∃ y, DataW.trod enc Tryz.prog W base sp held n t ((cs.drop o).take c) = some y := by
  have h := hf i f hi
  have hlt : i < xs.length := by rw [hsz]; exact (Array.getElem?_eq_some_iff.1 hi).1
  rw [List.getElem?_eq_getElem hlt, ht, hc, ho] at h
  exact ⟨_, h⟩
theorem openValue {n : Nat} {cs : List Value} {x : DataW H × List MemPlace} (h : DataW.trod enc Tryz.prog W base sp held n 33 cs = some x) : ∃ v : PVal, cs = [.int .i64 v.kind, .int .i64 v.n, .string v.s] := by
  obtain ⟨xs, m, -, -, hl, hsz, hf⟩ := DataW.trod_struct Tryz.underlying33 h
  rw [cellsValue] at hl
  obtain ⟨a, b, c, rfl⟩ := list3 hl
  obtain ⟨y0, h0⟩ := field_at hsz hf 0 rfl rfl cellsI rfl
  obtain ⟨y1, h1⟩ := field_at hsz hf 1 rfl rfl cellsI64 rfl
  obtain ⟨y2, h2⟩ := field_at hsz hf 2 rfl rfl cellsStr rfl
  obtain ⟨k, e0, -⟩ := DataW.trod_int Tryz.underlying3 h0
  obtain ⟨j, e1, -⟩ := DataW.trod_int Tryz.underlying2 h1
  obtain ⟨s, e2, -⟩ := DataW.trod_string Tryz.underlying9 h2
  simp at e0 e1 e2
  exact ⟨⟨k, j, s⟩, by rw [e0, e1, e2]⟩
theorem openOp {n : Nat} {cs : List Value} {x : DataW H × List MemPlace} (h : DataW.trod enc Tryz.prog W base sp held n 35 cs = some x) : ∃ o : POp, cs = o.cells := by
  obtain ⟨xs, m, -, -, hl, hsz, hf⟩ := DataW.trod_struct Tryz.underlying35 h
  rw [cellsOp] at hl
  obtain ⟨c0, c1, c2, c3, c4, c5, c6, c7, c8, c9, rfl⟩ := list10 hl
  obtain ⟨y0, h0⟩ := field_at hsz hf 0 rfl rfl cellsI rfl
  obtain ⟨y1, h1⟩ := field_at hsz hf 1 rfl rfl cellsI64 rfl
  obtain ⟨y2, h2⟩ := field_at hsz hf 2 rfl rfl cellsStr rfl
  obtain ⟨y3, h3⟩ := field_at hsz hf 3 rfl rfl cellsI64 rfl
  obtain ⟨y4, h4⟩ := field_at hsz hf 4 rfl rfl cellsI64 rfl
  obtain ⟨y5, h5⟩ := field_at hsz hf 5 rfl rfl cellsStr rfl
  obtain ⟨y6, h6⟩ := field_at hsz hf 6 rfl rfl cellsValue rfl
  obtain ⟨y7, h7⟩ := field_at hsz hf 7 rfl rfl cellsB rfl
  obtain ⟨k, e0, -⟩ := DataW.trod_int Tryz.underlying3 h0
  obtain ⟨id, e1, -⟩ := DataW.trod_int Tryz.underlying2 h1
  obtain ⟨ty, e2, -⟩ := DataW.trod_string Tryz.underlying9 h2
  obtain ⟨fr, e3, -⟩ := DataW.trod_int Tryz.underlying2 h3
  obtain ⟨tw, e4, -⟩ := DataW.trod_int Tryz.underlying2 h4
  obtain ⟨nm, e5, -⟩ := DataW.trod_string Tryz.underlying9 h5
  obtain ⟨v, e6⟩ := openValue h6
  obtain ⟨cc, e7, -⟩ := DataW.trod_bool Tryz.underlying4 h7
  simp at e0 e1 e2 e3 e4 e5 e6 e7
  obtain ⟨e6, e61, e62⟩ := e6
  exact ⟨⟨k, id, ty, fr, tw, nm, v, cc⟩, by rw [e0, e1, e2, e3, e4, e5, e6, e61, e62, e7]; rfl⟩

set_option maxRecDepth 100000 in
theorem openOps {v : Value} {d : DataW H} {ps : List MemPlace} {r : Reach} {b0 : Nat} (hval : Value.okWide Tryz.prog W r b0 22 v) (h : DataW.Trod enc Tryz.prog W base sp held 22 v d ps) : ∃ l : List POp, OpsR (fun _ => True) W v l := by
  obtain ⟨a0, len0, cap0, rfl⟩ := okWide_slice Tryz.underlying22 hval
  obtain ⟨n, hn⟩ := h
  rcases open_slice Tryz.underlying22 hn with ⟨hc, -⟩ | ⟨a, len, cap, m, n, D, Pl, hc, -, hlc, hcm, hm, -, hel⟩
  · simp [Value.cells] at hc
    obtain ⟨rfl, rfl, rfl⟩ := hc
    exact ⟨[], (OwnL.nil W 0 10 (fun o r => r = POp.cells o)).toSl (by simp)⟩
  · simp [Value.cells] at hc
    obtain ⟨rfl, rfl, rfl⟩ := hc
    rw [cellsOp] at hel
    have hlm : len0 ≤ m := by rw [hm]; split <;> omega
    have key : ∀ i, i < len0 → ∃ o : POp, ∀ (j : Nat) c, o.cells[j]? = some c → W.cell? ((a.add (i * 10)).add j) = some c := by
      intro i hi
      obtain ⟨cs', h1, h2⟩ := hel i (by omega)
      obtain ⟨o, rfl⟩ := openOp h2
      exact ⟨o, (cellsQ_at h1).2⟩
    obtain ⟨l, hl, hcells⟩ : ∃ l : List POp, l.length = len0 ∧ ∀ i o, l[i]? = some o → ∀ (j : Nat) c, o.cells[j]? = some c → W.cell? ((a.add (i * 10)).add j) = some c := by
      have build : ∀ n, n ≤ len0 → ∃ l : List POp, l.length = n ∧ ∀ i o, l[i]? = some o → ∀ (j : Nat) c, o.cells[j]? = some c → W.cell? ((a.add (i * 10)).add j) = some c := by
        intro n
        induction n with
        | zero => intro _; exact ⟨[], rfl, by simp⟩
        | succ n ih =>
          intro hn
          obtain ⟨l, hl, hc⟩ := ih (by omega)
          obtain ⟨o, ho⟩ := key n (by omega)
          refine ⟨l ++ [o], by simp [hl], fun i o' hi => ?_⟩
          by_cases hin : i < n
          · rw [List.getElem?_append_left (by omega)] at hi
            exact hc i o' hi
          · rw [List.getElem?_append_right (by omega), hl] at hi
            have e : i - n = 0 := by have := (List.getElem?_eq_some_iff.1 hi).1; simp at this; omega
            rw [e] at hi
            simp at hi
            subst hi
            obtain rfl : i = n := by omega
            exact ho
      exact build len0 (Nat.le_refl _)
    subst hl
    refine ⟨l, some a, cap0, l.map POp.cells, rfl, hlc, hcm, by simp, fun k x r hx hr => ?_, fun h0 => ?_⟩
    · rw [List.getElem?_map, hx] at hr
      simpa using hr.symm
    · have hc0 := hcells 0 l[0] (List.getElem?_eq_getElem h0) 0 _ rfl
      rw [Nat.zero_mul] at hc0
      have ha : a = ⟨a.block, a.off, none⟩ := by
        obtain ⟨b, o, s⟩ := a
        cases s with
        | none => rfl
        | some s =>
          exfalso
          simp only [Addr.add, if_pos] at hc0
          unfold World.cell? at hc0
          simp at hc0
          split at hc0 <;> cases hc0
      have hblt : a.block < W.heap.size := by
        have := World.block_lt_of_cell? W _ hc0
        simpa [Addr.add] using this
      refine ⟨a.block, a.off, by rw [← ha], trivial, hblt, fun k r j c hr hj => ?_⟩
      rw [List.getElem?_map] at hr
      obtain ⟨o, ho, rfl⟩ := Option.map_eq_some_iff.1 hr
      have := hcells k o ho j c hj
      rw [ha, Addr.add_lit, Addr.add_lit] at this
      exact this
end
end Go.Hg

namespace Go.Hg
open Go.RowKit Go.Proofs

abbrev StepsU (S : Nat → Prop) (w : World) (v : Value) (l : List PStep) : Prop := SlR S w 12 (fun x r => r = PStep.cells x) v l
def unfairS (x : PStep) : Bool := largeO x.o || decide (1000 < x.name.size)
def fairS (l : List PStep) : Bool := (l.all fun x => !unfairS x) && decide (l.length ≤ 100)
theorem stepCells {w wr : World} {x : PStep} {b o : Nat} {r : List Value} (h : r = PStep.cells x) (hb : b < w.heap.size) (g : Grow w wr) (hc : ∀ (j : Nat) c, r[j]? = some c → w.cell? ⟨b, o + j, none⟩ = some c) :
    b < wr.heap.size ∧ ∀ (j : Nat) c, (PStep.cells x)[j]? = some c → wr.cell? ⟨b, o + j, none⟩ = some c := by
  subst h
  exact ⟨Nat.lt_of_lt_of_le hb g.size, fun j c hj => by rw [World.cell?_of_block (w := w) (g.heapEq hb)]; exact hc j c hj⟩

set_option maxRecDepth 100000 in
set_option maxHeartbeats 2000000 in
theorem law19Fair (S : Nat → Prop) (v : Value) (l : List PStep) (w : World) (hl : StepsU S w v l) :
    Calls Tryz.prog 10 #[v] w fun e w' => e = .returned (.bool (fairS l)) ∧ Grow w w' := by
  obtain ⟨aa, ca, rfl, hal, hac, hA⟩ := SlR.open hl
  clear hl
  unfold maxLen at hac
  have HA := Lib.hid hA; clear hA
  have hd : decide ((l.length : Int) ≤ 100) = decide (l.length ≤ 100) := by by_cases h : l.length ≤ 100 <;> simp [h] <;> omega
  have HDD := Lib.hid hd; clear hd
  go_enter Tryz.func10, Tryz.ntmps10
  go_wp2
  go_loopg [3] l.length (fun g i wr => ∃ k : Nat, k ≤ l.length ∧ g = l.length - k ∧ i = .int .i64 k ∧ (∀ y ∈ l.take k, unfairS y = false) ∧ Grow w wr)
  case atStart => exact ⟨0, by omega, by omega, rfl, by simp, Grow.rfl' w⟩
  case round =>
    obtain ⟨k, hk, rfl, rfl, hall, hgr⟩ := hrel
    have HALL := Lib.hid hall; have HGR := Lib.hid hgr; clear hall
    by_cases hkl : k < l.length
    · obtain ⟨ba, oa, ra, rfl, hSa, hba, hRa, hca⟩ := HA.out k l[k] (List.getElem?_eq_getElem hkl)
      obtain ⟨hba', ac⟩ := stepCells hRa hba hgr hca
      have HM := Lib.hid (show l[k] ∈ l from List.getElem_mem hkl)
      have HT := Lib.hid (show l.take (k + 1) = l.take k ++ [l[k]] from List.take_succ_eq_append_getElem hkl)
      clear hca hRa hSa hba
      generalize l[k] = x at *
      have a1 := ac 1 _ rfl
      have a2 := ac 2 _ rfl
      have a3 := ac 3 _ rfl
      have a4 := ac 4 _ rfl
      have a5 := ac 5 _ rfl
      have a6 := ac 6 _ rfl
      have a7 := ac 7 _ rfl
      have a8 := ac 8 _ rfl
      have a9 := ac 9 _ rfl
      have a10 := ac 10 _ rfl
      have a11 : ∀ w', Grow wr w' → w'.cell? ⟨ba, oa + k * 12 + 11, none⟩ = some (.string x.name) := fun w' g => (g.cell (p := ⟨ba, oa + k * 12 + 11, none⟩) hba').trans (ac 11 _ rfl)
      have HA11 := Lib.hid a11
      clear ac a11 hgr
      go_wp2_with fail
      refine (keepLargeOp x.o _).mono ?_
      rintro e w2 ⟨rfl, hg⟩
      have b11 := HA11.out w2 hg
      have hb2 : ba < w2.heap.size := Nat.lt_of_lt_of_le hba' hg.size
      have HG := Lib.hid (HGR.out.step hg); clear hg
      cases hx : largeO x.o
      · cases hn : decide (1000 < x.name.size)
        · have HU := Lib.hid (show unfairS x = false by unfold unfairS; rw [hx, hn]; rfl)
          have hn2 : ¬ 1000 < x.name.size := of_decide_eq_false hn
          clear hn
          go_wp2
          go_roundg (l.length - (k + 1))
          case measure => omega
          case rel => exact ⟨k + 1, by omega, rfl, by go_num, by rw [HT.out]; intro y hy; rcases List.mem_append.1 hy with h | h; exact HALL.out y h; simp at h; subst h; exact HU.out, HG.out⟩
        · have HU := Lib.hid (show unfairS x = true by unfold unfairS; rw [hx, hn]; rfl)
          have hn2 : 1000 < x.name.size := of_decide_eq_true hn
          have HF := Lib.hid (show fairS l = false by unfold fairS; rw [List.all_eq_false.2 ⟨x, HM.out, by rw [HU.out]; simp⟩]; rfl)
          clear hn
          go_wp2
          go_ret
          exact ⟨by rw [HF.out]; rfl, HG.out⟩
      · have HU := Lib.hid (show unfairS x = true by unfold unfairS; rw [hx]; rfl)
        have HF := Lib.hid (show fairS l = false by unfold fairS; rw [List.all_eq_false.2 ⟨x, HM.out, by rw [HU.out]; simp⟩]; rfl)
        go_wp2
        go_ret
        exact ⟨by rw [HF.out]; rfl, HG.out⟩
    · have HF := Lib.hid (show fairS l = decide (l.length ≤ 100) by
        have h1 : l.take k = l := List.take_of_length_le (by omega)
        have h2 := HALL.out
        rw [h1] at h2
        unfold fairS
        rw [List.all_eq_true.2 (fun y hy => by rw [h2 y hy]; rfl)]
        rfl)
      have hd := HDD.out
      clear hgr
      go_wp2
      go_ret
      exact ⟨by rw [HF.out]; rfl, HGR.out⟩
end Go.Hg

namespace Go.Hg

def firstT (T : PTrail) : PGraph := ((T.l[0]?).map (·.2)).getD T.g
theorem first_do (T : PTrail) (o : POp) : firstT (doT T o).2 = firstT T := by
  unfold doT
  split
  · rfl
  split
  · rfl
  unfold firstT
  show (((T.l ++ [(opId o T.g, T.g)])[0]?).map (·.2)).getD (doG o T.g) = _
  cases h : T.l with
  | nil => rfl
  | cons a t => rfl
theorem first_mark (T : PTrail) (name : ByteArray) : firstT (markT T name).2 = firstT T := by
  unfold markT
  split
  · rfl
  split
  · rfl
  rfl
theorem first_cutN (T : PTrail) (n : Nat) : firstT (cutT T n) = firstT T := by
  unfold firstT cutT
  dsimp only
  cases n with
  | zero => simp
  | succ n =>
    cases h : T.l with
    | nil => simp
    | cons a t => simp
theorem first_back (T : PTrail) (name : ByteArray) : firstT (backT T name).2 = firstT T := by
  unfold backT
  split
  · rfl
  · rename_i k _
    have h := first_cutN T (((T.marks[k]?).map (·.2)).getD 0)
    exact h
def stepT (T : PTrail) (x : PStep) : PTrail :=
  if x.kind = 0 then (doT T x.o).2 else if x.kind = 1 then (markT T x.name).2 else if x.kind = 2 then (backT T x.name).2 else T
def runT (T : PTrail) (l : List PStep) : PTrail := l.foldl stepT T
theorem first_step (T : PTrail) (x : PStep) : firstT (stepT T x) = firstT T := by
  unfold stepT
  split
  · exact first_do T x.o
  split
  · exact first_mark T x.name
  split
  · exact first_back T x.name
  · rfl
theorem inv_step {T : PTrail} (h : TInv T) (x : PStep) : TInv (stepT T x) := by
  unfold stepT
  split
  · exact h.do x.o
  split
  · exact h.mark x.name
  split
  · exact h.back x.name
  · exact h
theorem first_run : ∀ (l : List PStep) (T : PTrail), firstT (runT T l) = firstT T
  | [], _ => rfl
  | x :: l, T => (first_run l (stepT T x)).trans (first_step T x)
theorem inv_run : ∀ (l : List PStep) {T : PTrail}, TInv T → TInv (runT T l)
  | [], _, h => h
  | x :: l, _, h => inv_run l (inv_step h x)
end Go.Hg

namespace Go.Hg
open Go.RowKit Go.Proofs

abbrev StpD (w : World) (b off : Nat) (x : PStep) : Prop := b < w.heap.size ∧ w.cell? ⟨b, off, none⟩ = some (.int .i64 x.kind) ∧ w.cell? ⟨b, off + 1, none⟩ = some (.int .i64 x.o.kind) ∧ w.cell? ⟨b, off + 2, none⟩ = some (.int .i64 x.o.id) ∧ w.cell? ⟨b, off + 3, none⟩ = some (.string x.o.typ) ∧
    w.cell? ⟨b, off + 4, none⟩ = some (.int .i64 x.o.from_) ∧ w.cell? ⟨b, off + 5, none⟩ = some (.int .i64 x.o.to_) ∧ w.cell? ⟨b, off + 6, none⟩ = some (.string x.o.name) ∧ w.cell? ⟨b, off + 7, none⟩ = some (.int .i64 x.o.v.kind) ∧ w.cell? ⟨b, off + 8, none⟩ = some (.int .i64 x.o.v.n) ∧ w.cell? ⟨b, off + 9, none⟩ = some (.string x.o.v.s) ∧ w.cell? ⟨b, off + 10, none⟩ = some (.bool x.o.cascade) ∧ w.cell? ⟨b, off + 11, none⟩ = some (.string x.name)
theorem cells_at {w w' : World} {b o : Nat} {r : List Value} (he : w'.heap[b]? = w.heap[b]?) (hc : ∀ (j : Nat) c, r[j]? = some c → w.cell? ⟨b, o + j, none⟩ = some c) (j : Nat) (c : Value) (hj : r[j]? = some c) : w'.cell? ⟨b, o + j, none⟩ = some c :=
  (World.cell?_of_block (a := ⟨b, o + j, none⟩) he).trans (hc j c hj)
theorem stpD_of {w w' : World} {x : PStep} {b o : Nat} {r : List Value} (h : r = PStep.cells x) (he : w'.heap[b]? = w.heap[b]?) (hc : ∀ (j : Nat) c, r[j]? = some c → w.cell? ⟨b, o + j, none⟩ = some c) : StpD w' b o x := by
  subst h
  have e := cells_at he hc
  exact ⟨cell_lt (e 0 _ rfl), e 0 _ rfl, e 1 _ rfl, e 2 _ rfl, e 3 _ rfl, e 4 _ rfl, e 5 _ rfl, e 6 _ rfl, e 7 _ rfl, e 8 _ rfl, e 9 _ rfl, e 10 _ rfl, e 11 _ rfl⟩
def TailU (P : Nat → Prop) (w3 wx : World) (A B : Nat) (T : PTrail) : Prop := TrailOk P wx A B T ∧ Mod P w3 wx
theorem runT_snoc (T : PTrail) (l : List PStep) (x : PStep) : runT T (l ++ [x]) = stepT (runT T l) x := by
  unfold runT
  rw [List.foldl_append]
  rfl
end Go.Hg

namespace Go.Hg
open Go.RowKit Go.ChangeShapes Go.WideShapes Go.Deep Go.Proofs

section
variable {H : Type} {enc : TypeId × Value → H} {W : World} {base : Nat} {sp : Nat → Bool} {held : Bool}
theorem cellsStepU : Tryz.prog.cellsOf 37 = 12 := by kernel_rfl
theorem list1102 {α : Type} {l : List α} (h : l.length = 12) : ∃ a b, ∃ t : List α, l = a :: (t ++ [b]) ∧ t.length = 10 := by
  match l, h with
  | a :: t, h =>
    have ht : t.length = 11 := by simpa using h
    exact ⟨a, t[10], t.take 10, by rw [← List.take_succ_eq_append_getElem (by omega), List.take_of_length_le (by omega)], by rw [List.length_take, ht]; rfl⟩
set_option maxRecDepth 100000 in
theorem openStepU {n : Nat} {cs : List Value} {x : DataW H × List MemPlace} (h : DataW.trod enc Tryz.prog W base sp held n 37 cs = some x) : ∃ o : PStep, cs = PStep.cells o := by
  obtain ⟨xs, m, -, -, hl, hsz, hf⟩ := DataW.trod_struct Tryz.underlying37 h
  rw [cellsStepU] at hl
  obtain ⟨c0, c1, t, rfl, ht⟩ := list1102 hl
  obtain ⟨y0, h0⟩ := field_at hsz hf 0 rfl rfl cellsI rfl
  obtain ⟨y1, h1⟩ := field_at hsz hf 1 rfl rfl cellsOp rfl
  obtain ⟨y2, h2⟩ := field_at hsz hf 2 rfl rfl cellsStr rfl
  obtain ⟨a0, e0, -⟩ := DataW.trod_int Tryz.underlying3 h0
  obtain ⟨o, e1⟩ := openOp h1
  obtain ⟨s, e2, -⟩ := DataW.trod_string Tryz.underlying9 h2
  have e0' : c0 = .int .i64 a0 := by simpa using e0
  have e1' : t = o.cells := by
    have : ((c0 :: (t ++ [c1])).drop 1).take 10 = t := by
      rw [List.drop_succ_cons, List.drop_zero, List.take_append, ht, Nat.sub_self, List.take_zero, List.append_nil, List.take_of_length_le (by omega)]
    exact this.symm.trans e1
  have e2' : c1 = .string s := by
    have : ((c0 :: (t ++ [c1])).drop 11).take 1 = [c1] := by
      rw [List.drop_succ_cons, List.drop_append, ht, List.drop_of_length_le (by omega)]
      rfl
    have h3 := this.symm.trans e2
    simpa using h3
  exact ⟨⟨a0, o, s⟩, by rw [e0', e1', e2']; rfl⟩
set_option maxRecDepth 100000 in
theorem openStepsU {v : Value} {d : DataW H} {ps : List MemPlace} {r : Reach} {b0 : Nat} (hval : Value.okWide Tryz.prog W r b0 23 v) (h : DataW.Trod enc Tryz.prog W base sp held 23 v d ps) : ∃ l : List PStep, StepsU (fun _ => True) W v l := by
  obtain ⟨a0, len0, cap0, rfl⟩ := okWide_slice Tryz.underlying23 hval
  obtain ⟨n, hn⟩ := h
  obtain ⟨v', l, h1, h2⟩ := openListC (fun (o : PStep) c => c = PStep.cells o) Tryz.underlying23 cellsStepU (by omega) (fun _ _ _ h => openStepU h) hn
  have e : [Value.slice a0 len0 cap0] = [v'] := h1
  simp only [List.cons.injEq, and_true] at e
  exact ⟨l, e ▸ h2⟩
end
end Go.Hg
