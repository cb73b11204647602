/- Slices of nodes and edges that are one's own; hedgerowkeep.CopyNodes, CopyEdges: the same in new memory; A graph behind a pointer: what lies there; What changes touch: the plain words; a rule that no spot concerns stays kept; hedgerowkeep.Value, Props: whether two are alike; hedgerowkeep.Node, Edge, Nodes, Edges: whether two are alike; Two graphs side by side, the program's and the reference's; hedgerowlaw17.Same of equal ones; dirty.Spots: the spots of changes, in order; keep.Op, keep.Ops of what is alike; hedgerowref17.Load: a graph of its own, where nodes and edges are a graph's; ref17.Graph.Copy; the reference's changes of a graph whose blocks are of P; ref20.of: a change's spots are put into spots in order. Conditions: those that each theorem names. -/
import Derived.WalkKit
import Derived.WalkSpells
import Derived.WalkLawsBesides
import Derived.Lib.Hide
import Derived.BigQuiet
import Derived.Deep.LoopGhost
import Derived.Test.YtanijffgogpmdaaGreatRows
import Derived.Lib.SliceRun
import Derived.WideMake
import Derived.Deep.RegionLaw
import Derived.Lib.Overlaps
import Derived.Deep.RegionHeld3
import Derived.Laws.ResultCell
import Derived.Laws.EntriesVeiled
import Derived.Maps.OwnOps
import Derived.Maps.OwnSet
import Derived.Carry
import Derived.Lib.SlKeysI
import Derived.Maps.RangeWalk
import Derived.Lib.SlMapFilter
import Derived.Deep.DeepCutAuto
import Derived.Shelf.SlIterI.Nil
import Derived.Shelf.SortM.Plain
import Derived.Shelf.SortM.SortNone
import Derived.Shelf.SlMaps.DeleteFunc
import Derived.Shelf.SlSortCmp.WholeK
import Derived.Shelf.SlIterI.Collect
import Derived.RangeFuncBox
import Derived.RangeFuncLeaves
import Derived.RangeFuncWrites
import Derived.Maps.AppendAt
import Derived.Deep.CutBlock
import Derived.BigRegion
import Derived.Test.YtanijffgogpmdaaGreatDirN
import Derived.Test.YtanijffgogpmdaaGreatDirO
import Derived.Test.YtanijffgogpmdaaGreatDirP
import Derived.Test.YtanijffgogpmdaaGreatDirQ
import Derived.Test.YtanijffgogpmdaaGreatDirS
import Derived.Test.YtanijffgogpmdaaGreatDirT
import Derived.Test.YtanijffgogpmdaaGreatDirU
import Derived.Test.YtanijffgogpmdaaGreatDirV
import Derived.Test.YtanijffgogpmdaaGreatDirAa
import Derived.Test.YtanijffgogpmdaaGreatDirAb
namespace Go.Hg
open Go.RowKit

section
variable {α : Type} {w w' : World} {E : TypeId} {sz : Nat} {R R' : α → List Value → Prop} {v v' : Value} {l : List α} {ob ob' : Option Nat}
end

theorem NodesO.close {F S SP : Nat → Prop} {w w' : World} {v' pv : Value} {l : List PNode} {ob ob' : Option Nat} {rows : List (List Value)} {x : PNode}
    (hS : ∀ b, S b → F b ∧ b < w.heap.size) (hob : ∀ g, ob = some g → F g ∧ ¬ S g) (h1 : rows.length = l.length)
    (h2 : ∀ (k : Nat) x r, l[k]? = some x → rows[k]? = some r → RNode S w x r ∧ r.length = 3) (h3 : ∃ v, OwnS w 94 3 v l.length rows.flatten ob)
    (hp : PropsR SP w pv x.props) (hSP : ∀ b, SP b → F b ∧ b < w.heap.size) (hd : ∀ g, ob = some g → ¬ SP g) (hF : ∀ g, w.heap.size ≤ g → F g)
    (hown : OwnS w' 94 3 v' (l.length + 1) (rows.flatten ++ [.int .i64 x.id, .string x.typ, pv]) ob') (hm : Mod (fun k => ob = some k) w w')
    (hob' : ob' = ob ∨ ∃ g, ob' = some g ∧ w.heap.size ≤ g) : NodesO F w' v' (l ++ [x]) := by
  obtain ⟨v, h3⟩ := h3
  refine ⟨fun b => S b ∨ SP b, ob', fun b hb => ?_, fun g hg => ?_, ?_⟩
  · have hs := hm.size
    rcases hb with hb | hb
    · exact ⟨(hS b hb).1, by have := (hS b hb).2; omega⟩
    · exact ⟨(hSP b hb).1, by have := (hSP b hb).2; omega⟩
  · rcases hob' with h | ⟨g', h, hge⟩
    · rw [h] at hg
      exact ⟨(hob g hg).1, fun h' => h'.elim (hob g hg).2 (hd g hg)⟩
    · rw [h] at hg; cases hg
      exact ⟨hF _ hge, fun h' => h'.elim (fun h'' => by have := (hS _ h'').2; omega) (fun h'' => by have := (hSP _ h'').2; omega)⟩
  · have hL : OwnL w 94 3 (RNode S w) v l ob := ⟨rows, h1, h2, h3⟩
    refine ⟨rows ++ [[.int .i64 x.id, .string x.typ, pv]], by simp [h1], fun k y r hk hk' => ?_, by simpa using hown⟩
    by_cases hlt : k < l.length
    · rw [List.getElem?_append_left hlt] at hk
      rw [List.getElem?_append_left (by omega)] at hk'
      obtain ⟨a, b⟩ := h2 k y r hk hk'
      exact ⟨(a.mod hm (fun b hb hh => (hob b hh).2 hb)).sub (fun _ h => .inl h), b⟩
    · rw [List.getElem?_append_right (by omega)] at hk
      rw [List.getElem?_append_right (by omega), h1] at hk'
      have e : k - l.length = 0 := by have := (List.getElem?_eq_some_iff.1 hk).1; simp at this; omega
      rw [e] at hk hk'
      simp at hk hk'
      subst hk; subst hk'
      exact ⟨⟨pv, rfl, (hp.mod hm (fun b hb hh => hd b hh hb)).sub (fun _ h => .inr h)⟩, rfl⟩
theorem EdgesO.close {F S SP : Nat → Prop} {w w' : World} {v' pv : Value} {l : List PEdge} {ob ob' : Option Nat} {rows : List (List Value)} {x : PEdge}
    (hS : ∀ b, S b → F b ∧ b < w.heap.size) (hob : ∀ g, ob = some g → F g ∧ ¬ S g) (h1 : rows.length = l.length)
    (h2 : ∀ (k : Nat) x r, l[k]? = some x → rows[k]? = some r → REdge S w x r ∧ r.length = 5) (h3 : ∃ v, OwnS w 98 5 v l.length rows.flatten ob)
    (hp : PropsR SP w pv x.props) (hSP : ∀ b, SP b → F b ∧ b < w.heap.size) (hd : ∀ g, ob = some g → ¬ SP g) (hF : ∀ g, w.heap.size ≤ g → F g)
    (hown : OwnS w' 98 5 v' (l.length + 1) (rows.flatten ++ [.int .i64 x.id, .string x.typ, .int .i64 x.from_, .int .i64 x.to_, pv]) ob') (hm : Mod (fun k => ob = some k) w w')
    (hob' : ob' = ob ∨ ∃ g, ob' = some g ∧ w.heap.size ≤ g) : EdgesO F w' v' (l ++ [x]) := by
  obtain ⟨v, h3⟩ := h3
  refine ⟨fun b => S b ∨ SP b, ob', fun b hb => ?_, fun g hg => ?_, ?_⟩
  · have hs := hm.size
    rcases hb with hb | hb
    · exact ⟨(hS b hb).1, by have := (hS b hb).2; omega⟩
    · exact ⟨(hSP b hb).1, by have := (hSP b hb).2; omega⟩
  · rcases hob' with h | ⟨g', h, hge⟩
    · rw [h] at hg
      exact ⟨(hob g hg).1, fun h' => h'.elim (hob g hg).2 (hd g hg)⟩
    · rw [h] at hg; cases hg
      exact ⟨hF _ hge, fun h' => h'.elim (fun h'' => by have := (hS _ h'').2; omega) (fun h'' => by have := (hSP _ h'').2; omega)⟩
  · have hL : OwnL w 98 5 (REdge S w) v l ob := ⟨rows, h1, h2, h3⟩
    refine ⟨rows ++ [[.int .i64 x.id, .string x.typ, .int .i64 x.from_, .int .i64 x.to_, pv]], by simp [h1], fun k y r hk hk' => ?_, by simpa using hown⟩
    by_cases hlt : k < l.length
    · rw [List.getElem?_append_left hlt] at hk
      rw [List.getElem?_append_left (by omega)] at hk'
      obtain ⟨a, b⟩ := h2 k y r hk hk'
      exact ⟨(a.mod hm (fun b hb hh => (hob b hh).2 hb)).sub (fun _ h => .inl h), b⟩
    · rw [List.getElem?_append_right (by omega)] at hk
      rw [List.getElem?_append_right (by omega), h1] at hk'
      have e : k - l.length = 0 := by have := (List.getElem?_eq_some_iff.1 hk).1; simp at this; omega
      rw [e] at hk hk'
      simp at hk hk'
      subst hk; subst hk'
      exact ⟨⟨pv, rfl, (hp.mod hm (fun b hb hh => hd b hh hb)).sub (fun _ h => .inr h)⟩, rfl⟩
end Go.Hg

namespace Go.Hg
open Go.RowKit Go.Proofs

set_option maxRecDepth 100000 in
set_option maxHeartbeats 400000 in
theorem copyNodes (S : Nat → Prop) (v : Value) (l : List PNode) (w : World) (hl : NodesR S w v l) (hb : l.length ≤ 1099511627776) (hpb : ∀ x ∈ l, x.props.length ≤ 1099511627776) :
    Calls Tryz.prog 137 #[v] w fun e w' => ∃ v', e = .returned v' ∧ NodesO (fun b => w.heap.size ≤ b) w' v' l ∧ Grow w w' := by
  obtain ⟨aa, ca, rfl, hal, hac, hA⟩ := SlR.open hl
  clear hl
  unfold maxLen at hac
  have HA := Lib.hid hA; clear hA
  have HP := Lib.hid hpb; clear hpb
  have HB := Lib.hid hb; clear hb
  obtain ⟨iP, hiP, hzP0, hzP1, hzP2⟩ := info_parts infoProp
  obtain ⟨iN, hiN, hzN0, hzN1, hzN2⟩ := info_parts infoNode
  go_enter Tryz.func137, Tryz.ntmps137
  go_wp2
  go_loopg [3, 4] l.length (fun g vo i wr => ∃ k : Nat, k ≤ l.length ∧ g = l.length - k ∧ i = .int .i64 k ∧ NodesO (fun b => w.heap.size ≤ b) wr vo (l.take k) ∧ Grow w wr)
  case atStart => exact ⟨0, by omega, by omega, rfl, by simpa using NodesO.nil _ w, Grow.rfl' w⟩
  case round =>
    obtain ⟨k, hk, rfl, rfl, hno, hgr⟩ := hrel
    have HNO := Lib.hid hno; clear hno
    by_cases hlt : k < l.length
    · obtain ⟨ba, oa, ra, rfl, hSa, hba, hRa, hca⟩ := HA.out k l[k] (List.getElem?_eq_getElem hlt)
      obtain ⟨pva, hba', a0, a1, a2, hpa⟩ := hRa.at hba hgr hca
      clear hca hRa hSa hba
      have HE := Lib.hid (show l.take (k + 1) = l.take k ++ [l[k]] from List.take_succ_eq_append_getElem hlt)
      have HPL := Lib.hid (HP.out l[k] (List.getElem_mem hlt))
      generalize l[k] = na at *
      have HPA := Lib.hid hpa
      obtain ⟨oap, cap, rfl⟩ := hpa.isSlice
      clear hpa
      have hO := OwnS.lit (wr.alloc (.cells #[.int .i64 na.id, .string na.typ, .slice oap na.props.length cap] 94)) #[] 123 4 0 (by simp [maxLen]) rfl
      simp only [World.size_alloc] at hO
      have hg2 : Grow wr ((wr.alloc (.cells #[.int .i64 na.id, .string na.typ, .slice oap na.props.length cap] 94)).alloc (.cells #[] 123)) := ((Grow.rfl' wr).allocd _).allocd _
      have hbx : ((wr.alloc (.cells #[.int .i64 na.id, .string na.typ, .slice oap na.props.length cap] 94)).alloc (.cells #[] 123)).heap[wr.heap.size]? = some (.cells #[.int .i64 na.id, .string na.typ, .slice oap na.props.length cap] 94 (0, 0)) := by
        rw [Below.heap_alloc _ _ _ (by simp)]
        exact heap_alloc_new wr _
      have HO := Lib.hid hO; have HG2 := Lib.hid hg2; have HBX := Lib.hid hbx
      clear hO hg2 hbx
      go_wp2_with (at_builtin; go_must (refine wpList_append_S _ rfl (.tmp 16) (.tmp 18) 92 rfl 123 iP _ 4 48 Tryz.underlying92 hiP hzP0 hzP1 hzP2 rfl (by decide) (.slice (some ⟨wr.heap.size + 1, 0, none⟩) 0 0) 0 [] (some (wr.heap.size + 1)) rfl HO.out (.slice oap na.props.length cap) rfl na.props.length (na.props.map PProp.cells).flatten (HPA.out.rd.grow HG2.out) ?one ?c1 ?c2 ?nx))
      case one => exact oneCell_props _
      case c1 => have := HPL.out; unfold maxLen; omega
      case c2 => have := HPL.out; omega
      case nx =>
        intro vp w2 obp hown hmod hobp _
        have hg3 : Grow wr w2 := HG2.out.modd hmod (fun x hx => by omega)
        have hbx2 : w2.heap[wr.heap.size]? = some (.cells #[.int .i64 na.id, .string na.typ, .slice oap na.props.length cap] 94 (0, 0)) := by
          rw [hmod.block _ (by simp; omega) (by omega)]; exact HBX.out
        have c0 : w2.cell? ⟨wr.heap.size, 0, none⟩ = some (.int .i64 na.id) := by rw [blk_cell hbx2]; rfl
        have c1 : w2.cell? ⟨wr.heap.size, 1, none⟩ = some (.string na.typ) := by rw [blk_cell hbx2]; rfl
        have c2 : w2.cell? ⟨wr.heap.size, 2, none⟩ = some (.slice oap na.props.length cap) := by rw [blk_cell hbx2]; rfl
        have f2 := blk_free hbx2 2
        have hs2 : wr.heap.size + 2 ≤ w2.heap.size := by have := hmod.size; simpa using this
        obtain ⟨oav, capv, rfl, -, -⟩ := hown.isSlice
        have hg4 : Grow wr (w2.setCell ⟨wr.heap.size, 2, none⟩ (.slice oav na.props.length capv)) := hg3.setd (Nat.le_refl _) _
        have hp4 : PropsR (fun b => obp = some b) (w2.setCell ⟨wr.heap.size, 2, none⟩ (.slice oav na.props.length capv)) (.slice oav na.props.length capv) na.props :=
          hown.props.mod ((Mod.rfl' (fun b => b = wr.heap.size) w2).setd (.inl rfl) _) (fun b hb h => by
            rcases hobp with h' | ⟨g, h', hge⟩ <;> (rw [h'] at hb; cases hb; omega))
        have hl4 : ∀ b, obp = some b → wr.heap.size + 1 ≤ b ∧ b < w2.heap.size := fun b hb => ⟨by rcases hobp with h' | ⟨g, h', hge⟩ <;> (rw [h'] at hb; cases hb; omega), hown.lt b hb⟩
        have hs4 : (w2.setCell ⟨wr.heap.size, 2, none⟩ (.slice oav na.props.length capv)).heap.size = w2.heap.size := by simp
        have HG4 := Lib.hid hg4; have HP4 := Lib.hid hp4; have HL4 := Lib.hid hl4; have HS4 := Lib.hid hs4
        clear hown hmod hobp hg3 hbx2 hg4 hp4 hl4 hs4
        obtain ⟨S1, ob1, rows1, hS1, hob1, hr1, hr2, hown1⟩ := HNO.out.open (HG4.out.allocd (.cells #[.int .i64 na.id, .string na.typ, .slice oav na.props.length capv] 94))
        have HS1 := Lib.hid hS1; have HOB1 := Lib.hid hob1; have HR1 := Lib.hid hr1; have HR2 := Lib.hid hr2; have HOWN1 := Lib.hid hown1
        obtain ⟨oau, capu, rfl, -, -⟩ := hown1.isSlice
        have HTK := Lib.hid (show (l.take k).length = k by simp; omega)
        have hrd := Rd.lit (w2.setCell ⟨wr.heap.size, 2, none⟩ (.slice oav na.props.length capv)) #[.int .i64 na.id, .string na.typ, .slice oav na.props.length capv] 94 3 1 rfl
        simp only [World.size_setCell] at hrd
        have HRD := Lib.hid hrd
        clear hS1 hob1 hr1 hr2 hown1 hrd
        go_wp2_with (at_builtin; go_must (refine wpList_append_S _ rfl (.tmp 21) (.tmp 23) 37 rfl 94 iN _ 3 48 Tryz.underlying37 hiN hzN0 hzN1 hzN2 rfl (by decide) (.slice oau (l.take k).length capu) (l.take k).length rows1.flatten ob1 rfl HOWN1.out (.slice (some ⟨w2.heap.size, 0, none⟩) 1 1) rfl 1 _ HRD.out ?one ?c1 ?c2 ?nx))
        case one => first | exact ⟨rfl, rfl, rfl⟩ | (intro u hu; simp only [List.mem_cons, List.not_mem_nil, or_false] at hu; rcases hu with rfl | rfl | rfl <;> rfl)
        case c1 => have := HB.out; have := HTK.out; unfold maxLen; omega
        case c2 => have := HB.out; have := HTK.out; omega
        case nx =>
          intro vn w5 obn hown5 hmod5 hobn
          have hs := hgr.size
          have hs1 := HG4.out.size
          have hs2 := HS4.out
          have hfin : NodesO (fun b => w.heap.size ≤ b) w5 vn (l.take k ++ [na]) :=
            NodesO.close (S := S1) (SP := fun b => obp = some b) (pv := .slice oav na.props.length capv)
              (fun b hb => ⟨(HS1.out b hb).1, by have := (HS1.out b hb).2; simp; omega⟩) (fun g hg => ⟨(HOB1.out g hg).1, (HOB1.out g hg).2.1⟩) HR1.out HR2.out ⟨_, HOWN1.out⟩
              (HP4.out.grow ((Grow.rfl' _).allocd _)) (fun b hb => ⟨by have := (HL4.out b hb).1; omega, by have := (HL4.out b hb).2; simp; omega⟩)
              (fun g hg h' => by have := (HOB1.out g hg).2.2; have := (HL4.out g h').1; omega) (fun g hg => by simp at hg; omega)
              (by rw [HTK.out]; exact hown5) hmod5 (by simpa using hobn)
          have hg5 : Grow w w5 := (hgr.step (HG4.out.allocd _)).modd hmod5 (fun x hx => (HOB1.out x hx).1)
          have HFIN := Lib.hid hfin; have HG5 := Lib.hid hg5
          clear hfin hg5 hmod5 hobn hown5 hs hs1 hs2
          go_wp2_with fail
          go_roundg (l.length - (k + 1))
          case measure => omega
          case rel => exact ⟨k + 1, by omega, rfl, by go_num, by rw [HE.out]; exact HFIN.out, HG5.out⟩
    · have HX := Lib.hid (show l.take k = l from List.take_of_length_le (by omega))
      go_wp2_with fail
      go_ret
      exact ⟨_, rfl, by rw [← HX.out]; exact HNO.out, hgr⟩
set_option maxRecDepth 100000 in
set_option maxHeartbeats 400000 in
theorem copyEdges (S : Nat → Prop) (v : Value) (l : List PEdge) (w : World) (hl : EdgesR S w v l) (hb : l.length ≤ 1099511627776) (hpb : ∀ x ∈ l, x.props.length ≤ 1099511627776) :
    Calls Tryz.prog 138 #[v] w fun e w' => ∃ v', e = .returned v' ∧ EdgesO (fun b => w.heap.size ≤ b) w' v' l ∧ Grow w w' := by
  obtain ⟨aa, ca, rfl, hal, hac, hA⟩ := SlR.open hl
  clear hl
  unfold maxLen at hac
  have HA := Lib.hid hA; clear hA
  have HP := Lib.hid hpb; clear hpb
  have HB := Lib.hid hb; clear hb
  obtain ⟨iP, hiP, hzP0, hzP1, hzP2⟩ := info_parts infoProp
  obtain ⟨iN, hiN, hzN0, hzN1, hzN2⟩ := info_parts infoEdge
  go_enter Tryz.func138, Tryz.ntmps138
  go_wp2
  go_loopg [3, 4] l.length (fun g vo i wr => ∃ k : Nat, k ≤ l.length ∧ g = l.length - k ∧ i = .int .i64 k ∧ EdgesO (fun b => w.heap.size ≤ b) wr vo (l.take k) ∧ Grow w wr)
  case atStart => exact ⟨0, by omega, by omega, rfl, by simpa using EdgesO.nil _ w, Grow.rfl' w⟩
  case round =>
    obtain ⟨k, hk, rfl, rfl, hno, hgr⟩ := hrel
    have HNO := Lib.hid hno; clear hno
    by_cases hlt : k < l.length
    · obtain ⟨ba, oa, ra, rfl, hSa, hba, hRa, hca⟩ := HA.out k l[k] (List.getElem?_eq_getElem hlt)
      obtain ⟨pva, hba', a0, a1, a2, a3, a4, hpa⟩ := hRa.at hba hgr hca
      clear hca hRa hSa hba
      have HE := Lib.hid (show l.take (k + 1) = l.take k ++ [l[k]] from List.take_succ_eq_append_getElem hlt)
      have HPL := Lib.hid (HP.out l[k] (List.getElem_mem hlt))
      generalize l[k] = na at *
      have HPA := Lib.hid hpa
      obtain ⟨oap, cap, rfl⟩ := hpa.isSlice
      clear hpa
      have hO := OwnS.lit (wr.alloc (.cells #[.int .i64 na.id, .string na.typ, .int .i64 na.from_, .int .i64 na.to_, .slice oap na.props.length cap] 98)) #[] 123 4 0 (by simp [maxLen]) rfl
      simp only [World.size_alloc] at hO
      have hg2 : Grow wr ((wr.alloc (.cells #[.int .i64 na.id, .string na.typ, .int .i64 na.from_, .int .i64 na.to_, .slice oap na.props.length cap] 98)).alloc (.cells #[] 123)) := ((Grow.rfl' wr).allocd _).allocd _
      have hbx : ((wr.alloc (.cells #[.int .i64 na.id, .string na.typ, .int .i64 na.from_, .int .i64 na.to_, .slice oap na.props.length cap] 98)).alloc (.cells #[] 123)).heap[wr.heap.size]? = some (.cells #[.int .i64 na.id, .string na.typ, .int .i64 na.from_, .int .i64 na.to_, .slice oap na.props.length cap] 98 (0, 0)) := by
        rw [Below.heap_alloc _ _ _ (by simp)]
        exact heap_alloc_new wr _
      have HO := Lib.hid hO; have HG2 := Lib.hid hg2; have HBX := Lib.hid hbx
      clear hO hg2 hbx
      go_wp2_with (at_builtin; go_must (refine wpList_append_S _ rfl (.tmp 16) (.tmp 18) 92 rfl 123 iP _ 4 48 Tryz.underlying92 hiP hzP0 hzP1 hzP2 rfl (by decide) (.slice (some ⟨wr.heap.size + 1, 0, none⟩) 0 0) 0 [] (some (wr.heap.size + 1)) rfl HO.out (.slice oap na.props.length cap) rfl na.props.length (na.props.map PProp.cells).flatten (HPA.out.rd.grow HG2.out) ?one ?c1 ?c2 ?nx))
      case one => exact oneCell_props _
      case c1 => have := HPL.out; unfold maxLen; omega
      case c2 => have := HPL.out; omega
      case nx =>
        intro vp w2 obp hown hmod hobp _
        have hg3 : Grow wr w2 := HG2.out.modd hmod (fun x hx => by omega)
        have hbx2 : w2.heap[wr.heap.size]? = some (.cells #[.int .i64 na.id, .string na.typ, .int .i64 na.from_, .int .i64 na.to_, .slice oap na.props.length cap] 98 (0, 0)) := by
          rw [hmod.block _ (by simp; omega) (by omega)]; exact HBX.out
        have c0 : w2.cell? ⟨wr.heap.size, 0, none⟩ = some (.int .i64 na.id) := by rw [blk_cell hbx2]; rfl
        have c1 : w2.cell? ⟨wr.heap.size, 1, none⟩ = some (.string na.typ) := by rw [blk_cell hbx2]; rfl
        have c2 : w2.cell? ⟨wr.heap.size, 2, none⟩ = some (.int .i64 na.from_) := by rw [blk_cell hbx2]; rfl
        have c3 : w2.cell? ⟨wr.heap.size, 3, none⟩ = some (.int .i64 na.to_) := by rw [blk_cell hbx2]; rfl
        have c4 : w2.cell? ⟨wr.heap.size, 4, none⟩ = some (.slice oap na.props.length cap) := by rw [blk_cell hbx2]; rfl
        have f2 := blk_free hbx2 4
        have hs2 : wr.heap.size + 2 ≤ w2.heap.size := by have := hmod.size; simpa using this
        obtain ⟨oav, capv, rfl, -, -⟩ := hown.isSlice
        have hg4 : Grow wr (w2.setCell ⟨wr.heap.size, 4, none⟩ (.slice oav na.props.length capv)) := hg3.setd (Nat.le_refl _) _
        have hp4 : PropsR (fun b => obp = some b) (w2.setCell ⟨wr.heap.size, 4, none⟩ (.slice oav na.props.length capv)) (.slice oav na.props.length capv) na.props :=
          hown.props.mod ((Mod.rfl' (fun b => b = wr.heap.size) w2).setd (.inl rfl) _) (fun b hb h => by
            rcases hobp with h' | ⟨g, h', hge⟩ <;> (rw [h'] at hb; cases hb; omega))
        have hl4 : ∀ b, obp = some b → wr.heap.size + 1 ≤ b ∧ b < w2.heap.size := fun b hb => ⟨by rcases hobp with h' | ⟨g, h', hge⟩ <;> (rw [h'] at hb; cases hb; omega), hown.lt b hb⟩
        have hs4 : (w2.setCell ⟨wr.heap.size, 4, none⟩ (.slice oav na.props.length capv)).heap.size = w2.heap.size := by simp
        have HG4 := Lib.hid hg4; have HP4 := Lib.hid hp4; have HL4 := Lib.hid hl4; have HS4 := Lib.hid hs4
        clear hown hmod hobp hg3 hbx2 hg4 hp4 hl4 hs4
        obtain ⟨S1, ob1, rows1, hS1, hob1, hr1, hr2, hown1⟩ := HNO.out.open (HG4.out.allocd (.cells #[.int .i64 na.id, .string na.typ, .int .i64 na.from_, .int .i64 na.to_, .slice oav na.props.length capv] 98))
        have HS1 := Lib.hid hS1; have HOB1 := Lib.hid hob1; have HR1 := Lib.hid hr1; have HR2 := Lib.hid hr2; have HOWN1 := Lib.hid hown1
        obtain ⟨oau, capu, rfl, -, -⟩ := hown1.isSlice
        have HTK := Lib.hid (show (l.take k).length = k by simp; omega)
        have hrd := Rd.lit (w2.setCell ⟨wr.heap.size, 4, none⟩ (.slice oav na.props.length capv)) #[.int .i64 na.id, .string na.typ, .int .i64 na.from_, .int .i64 na.to_, .slice oav na.props.length capv] 98 5 1 rfl
        simp only [World.size_setCell] at hrd
        have HRD := Lib.hid hrd
        clear hS1 hob1 hr1 hr2 hown1 hrd
        go_wp2_with (at_builtin; go_must (refine wpList_append_S _ rfl (.tmp 21) (.tmp 23) 39 rfl 98 iN _ 5 64 Tryz.underlying39 hiN hzN0 hzN1 hzN2 rfl (by decide) (.slice oau (l.take k).length capu) (l.take k).length rows1.flatten ob1 rfl HOWN1.out (.slice (some ⟨w2.heap.size, 0, none⟩) 1 1) rfl 1 _ HRD.out ?one ?c1 ?c2 ?nx))
        case one => first | exact ⟨rfl, rfl, rfl, rfl, rfl⟩ | (intro u hu; simp only [List.mem_cons, List.not_mem_nil, or_false] at hu; rcases hu with rfl | rfl | rfl | rfl | rfl <;> rfl)
        case c1 => have := HB.out; have := HTK.out; unfold maxLen; omega
        case c2 => have := HB.out; have := HTK.out; omega
        case nx =>
          intro vn w5 obn hown5 hmod5 hobn
          have hs := hgr.size
          have hs1 := HG4.out.size
          have hs2 := HS4.out
          have hfin : EdgesO (fun b => w.heap.size ≤ b) w5 vn (l.take k ++ [na]) :=
            EdgesO.close (S := S1) (SP := fun b => obp = some b) (pv := .slice oav na.props.length capv)
              (fun b hb => ⟨(HS1.out b hb).1, by have := (HS1.out b hb).2; simp; omega⟩) (fun g hg => ⟨(HOB1.out g hg).1, (HOB1.out g hg).2.1⟩) HR1.out HR2.out ⟨_, HOWN1.out⟩
              (HP4.out.grow ((Grow.rfl' _).allocd _)) (fun b hb => ⟨by have := (HL4.out b hb).1; omega, by have := (HL4.out b hb).2; simp; omega⟩)
              (fun g hg h' => by have := (HOB1.out g hg).2.2; have := (HL4.out g h').1; omega) (fun g hg => by simp at hg; omega)
              (by rw [HTK.out]; exact hown5) hmod5 (by simpa using hobn)
          have hg5 : Grow w w5 := (hgr.step (HG4.out.allocd _)).modd hmod5 (fun x hx => (HOB1.out x hx).1)
          have HFIN := Lib.hid hfin; have HG5 := Lib.hid hg5
          clear hfin hg5 hmod5 hobn hown5 hs hs1 hs2
          go_wp2_with fail
          go_roundg (l.length - (k + 1))
          case measure => omega
          case rel => exact ⟨k + 1, by omega, rfl, by go_num, by rw [HE.out]; exact HFIN.out, HG5.out⟩
    · have HX := Lib.hid (show l.take k = l from List.take_of_length_le (by omega))
      go_wp2_with fail
      go_ret
      exact ⟨_, rfl, by rw [← HX.out]; exact HNO.out, hgr⟩
end Go.Hg

namespace Go.Hg
open Go.RowKit Go.Proofs

set_option maxHeartbeats 400000 in
theorem graphNext (S : Nat → Prop) (B : Nat) (G : PGraph) (w : World) (h : GraphOk 120 S w B G) :
    Calls Tryz.prog 83 #[.pointer (some ⟨B, 0, none⟩)] w fun e w' => e = .returned (.int .i64 G.next) ∧ w = w' := by
  obtain ⟨na, nc, ea, ec, hb, c0, c1, c2, -, -⟩ := h.read
  clear h
  go_enter Tryz.func83, Tryz.ntmps83
  go_wp2
  go_ret
  exact ⟨rfl, rfl⟩
end Go.Hg

namespace Go.Hg

theorem uniq_idE {l : List PEdge} (hs : (l.map (·.id)).Pairwise (· < ·)) {x y : PEdge} (hx : x ∈ l) (hy : y ∈ l) (h : x.id = y.id) : x = y := by
  induction l with
  | nil => cases hx
  | cons a t ih =>
    rw [List.map_cons, List.pairwise_cons] at hs
    rcases List.mem_cons.1 hx with rfl | hx2 <;> rcases List.mem_cons.1 hy with rfl | hy2
    · rfl
    · have := hs.1 _ (List.mem_map_of_mem hy2); omega
    · have := hs.1 _ (List.mem_map_of_mem hx2); omega
    · exact ih hs.2 hx2 hy2

end Go.Hg

namespace Go.Hg
open Go.RowKit Go.Proofs

set_option maxHeartbeats 400000 in
theorem keepValue (a b : PVal) (w : World) :
    Calls Tryz.prog 143 #[.agg #[.int .i64 a.kind, .int .i64 a.n, .string a.s], .agg #[.int .i64 b.kind, .int .i64 b.n, .string b.s]] w fun e w' => e = .returned (.bool (decide (a = b))) ∧ Grow w w' := by
  obtain ⟨k, n, s⟩ := a
  obtain ⟨k', n', s'⟩ := b
  have hg : ∀ o1 o2, Grow w ((w.alloc o1).alloc o2) := fun o1 o2 => ((Grow.rfl' w).allocd o1).allocd o2
  go_enter Tryz.func143, Tryz.ntmps143
  go_wp2
  all_goals
    go_ret
    refine ⟨?_, hg _ _⟩
    simp [*]

set_option maxHeartbeats 400000 in
theorem keepProps (Sa Sb : Nat → Prop) (va vb : Value) (a b : List PProp) (w : World) (ha : PropsR Sa w va a) (hb : PropsR Sb w vb b) :
    Calls Tryz.prog 164 #[va, vb] w fun e w' => e = .returned (.bool (decide (a = b))) ∧ Grow w w' := by
  obtain ⟨aa, ca, rfl, hal, hac, hA⟩ := SlR.open ha
  obtain ⟨ab, cb, rfl, hbl, hbc, hB⟩ := SlR.open hb
  clear ha hb
  unfold maxLen at hac hbc
  have HA := Lib.hid hA; clear hA
  have HB := Lib.hid hB; clear hB
  by_cases hlen : a.length = b.length
  · have HL := Lib.hid hlen
    go_enter Tryz.func164, Tryz.ntmps164
    go_wp2
    clear hlen
    go_loopg [5] b.length (fun g i wr => ∃ k : Nat, k ≤ b.length ∧ g = b.length - k ∧ i = .int .i64 k ∧ a.take k = b.take k ∧ Grow w wr)
    case atStart => exact ⟨0, by omega, by omega, rfl, by simp, Grow.rfl' w⟩
    case round =>
      obtain ⟨k, hk, rfl, rfl, htk, hgr⟩ := hrel
      have HT := Lib.hid htk; clear htk
      by_cases hlt : k < b.length
      · have hlt' : k < a.length := by have := HL.out; omega
        obtain ⟨ba, oa, ra, rfl, hSa, hba, hRa, hca⟩ := HA.out k a[k] (List.getElem?_eq_getElem hlt')
        obtain ⟨bb, ob, rb, rfl, hSb, hbb, hRb, hcb⟩ := HB.out k b[k] (List.getElem?_eq_getElem hlt)
        obtain ⟨hba', a0, a1, a2, a3⟩ := hRa.at hba hgr hca
        obtain ⟨hbb', b0, b1, b2, b3⟩ := hRb.at hbb hgr hcb
        clear hca hcb hRa hRb hSa hSb hba hbb
        have ea : a.take (k + 1) = a.take k ++ [a[k]] := List.take_succ_eq_append_getElem hlt'
        have eb : b.take (k + 1) = b.take k ++ [b[k]] := List.take_succ_eq_append_getElem hlt
        have EA := Lib.hid ea
        have EB := Lib.hid eb
        clear ea eb
        have hne : ¬ a[k] = b[k] → ¬ a = b := fun h e => h (by subst e; rfl)
        have HNE := Lib.hid hne; clear hne
        generalize a[k] = pa at *
        generalize b[k] = pb at *
        cases hn : decide (pa.name = pb.name)
        · go_wp2_with fail
          refine wp_region_grow (by kernel_rfl) (by kernel_rfl) ?_
          repeat (first | go_big_quiet_skip | (go_big_quiet_want; go_big_quiet_op; go_big_quiet_on))
          refine wpQuiet_nil ?_
          intro w2 hw2
          go_wp2
          go_ret
          exact ⟨by rw [decide_eq_false (HNE.out (fun h => of_decide_eq_false hn (by rw [h])))]; rfl, hgr.step hw2⟩
        · cases hv : decide (pa.v = pb.v)
          all_goals
            go_wp2_with fail
            refine wp_region_grow (by kernel_rfl) (by kernel_rfl) ?_
            repeat (first | go_big_quiet_skip | (go_big_quiet_want; go_big_quiet_op; first | go_big_quiet_on | (apply Exists.intro; refine ⟨fun g => ?_, ?_⟩; (exact calls_gr (keepValue pa.v pb.v _)); go_big_quiet_on)))
            refine wpQuiet_nil ?_
            intro w2 hw2
            go_wp2
          · go_ret
            exact ⟨by rw [decide_eq_false (HNE.out (fun h => of_decide_eq_false hv (by rw [h])))]; rfl, hgr.step hw2⟩
          · go_roundg (b.length - (k + 1))
            case measure => omega
            case rel => exact ⟨k + 1, by omega, rfl, by go_num, by rw [EA.out, EB.out, HT.out, show pa = pb by cases pa; cases pb; simp_all], hgr.step hw2⟩
      · have hlt' : ¬ k < a.length := by have := HL.out; omega
        have hk' : k = b.length := by omega
        have hx : a = b := by
          have h1 := HT.out
          rw [List.take_of_length_le (by omega), List.take_of_length_le (by omega)] at h1
          exact h1
        have HX := Lib.hid hx; clear hx hk'
        go_wp2
        go_ret
        exact ⟨by rw [HX.out]; simp, hgr⟩
  · have hx : ¬ a = b := fun e => hlen (by rw [e])
    have HX := Lib.hid hx; clear hx
    have h1 : ¬ ((a.length : Int) = (b.length : Int)) := by omega
    go_enter Tryz.func164, Tryz.ntmps164
    go_wp2
    go_ret
    exact ⟨by rw [decide_eq_false HX.out]; rfl, Grow.rfl' w⟩
end Go.Hg

namespace Go.Hg
open Go.RowKit Go.Proofs

set_option maxHeartbeats 400000 in
theorem keepNode (Sa Sb : Nat → Prop) (a b : PNode) (pa pb : Value) (w : World) (ha : PropsR Sa w pa a.props) (hb : PropsR Sb w pb b.props) :
    Calls Tryz.prog 124 #[.agg #[.int .i64 a.id, .string a.typ, pa], .agg #[.int .i64 b.id, .string b.typ, pb]] w fun e w' => e = .returned (.bool (decide (a = b))) ∧ Grow w w' := by
  obtain ⟨i, t, p⟩ := a
  obtain ⟨i', t', p'⟩ := b
  have hg : ∀ o1 o2, Grow w ((w.alloc o1).alloc o2) := fun o1 o2 => ((Grow.rfl' w).allocd o1).allocd o2
  have KA := fun o1 o2 => PropsR.grow ha (hg o1 o2)
  have KB := fun o1 o2 => PropsR.grow hb (hg o1 o2)
  obtain ⟨aa, ca, rfl, -, -, -⟩ := SlR.open ha
  obtain ⟨ab, cb, rfl, -, -, -⟩ := SlR.open hb
  have HA := Lib.hid KA; have HB := Lib.hid KB; have HG := Lib.hid hg
  clear ha hb KA KB hg
  go_enter Tryz.func124, Tryz.ntmps124
  go_wp2_with (go_at_call 164; (with_reducible refine (keepProps Sa Sb _ _ p p' _ (HA.out _ _) (HB.out _ _)).mono ?_); rintro e w2 ⟨rfl, hw2⟩)
  all_goals
    go_ret
    refine ⟨?_, by first | exact HG.out _ _ | exact (HG.out _ _).step ‹_›⟩
    simp [*]

set_option maxHeartbeats 400000 in
theorem keepEdge (Sa Sb : Nat → Prop) (a b : PEdge) (pa pb : Value) (w : World) (ha : PropsR Sa w pa a.props) (hb : PropsR Sb w pb b.props) :
    Calls Tryz.prog 125 #[.agg #[.int .i64 a.id, .string a.typ, .int .i64 a.from_, .int .i64 a.to_, pa], .agg #[.int .i64 b.id, .string b.typ, .int .i64 b.from_, .int .i64 b.to_, pb]] w fun e w' => e = .returned (.bool (decide (a = b))) ∧ Grow w w' := by
  obtain ⟨i, t, f, o, p⟩ := a
  obtain ⟨i', t', f', o', p'⟩ := b
  have hg : ∀ o1 o2, Grow w ((w.alloc o1).alloc o2) := fun o1 o2 => ((Grow.rfl' w).allocd o1).allocd o2
  have KA := fun o1 o2 => PropsR.grow ha (hg o1 o2)
  have KB := fun o1 o2 => PropsR.grow hb (hg o1 o2)
  obtain ⟨aa, ca, rfl, -, -, -⟩ := SlR.open ha
  obtain ⟨ab, cb, rfl, -, -, -⟩ := SlR.open hb
  have HA := Lib.hid KA; have HB := Lib.hid KB; have HG := Lib.hid hg
  clear ha hb KA KB hg
  go_enter Tryz.func125, Tryz.ntmps125
  go_wp2_with (go_at_call 164; (with_reducible refine (keepProps Sa Sb _ _ p p' _ (HA.out _ _) (HB.out _ _)).mono ?_); rintro e w2 ⟨rfl, hw2⟩)
  all_goals
    go_ret
    refine ⟨?_, by first | exact HG.out _ _ | exact (HG.out _ _).step ‹_›⟩
    simp [*]

set_option maxHeartbeats 400000 in
theorem keepNodes (Sa Sb : Nat → Prop) (va vb : Value) (a b : List PNode) (w : World) (ha : NodesR Sa w va a) (hb : NodesR Sb w vb b) :
    Calls Tryz.prog 81 #[va, vb] w fun e w' => e = .returned (.bool (decide (a = b))) ∧ Grow w w' := by
  obtain ⟨aa, ca, rfl, hal, hac, hA⟩ := SlR.open ha
  obtain ⟨ab, cb, rfl, hbl, hbc, hB⟩ := SlR.open hb
  clear ha hb
  unfold maxLen at hac hbc
  have HA := Lib.hid hA; clear hA
  have HB := Lib.hid hB; clear hB
  by_cases hlen : a.length = b.length
  · have HL := Lib.hid hlen
    go_enter Tryz.func81, Tryz.ntmps81
    go_wp2
    clear hlen
    go_loopg [5] b.length (fun g i wr => ∃ k : Nat, k ≤ b.length ∧ g = b.length - k ∧ i = .int .i64 k ∧ a.take k = b.take k ∧ Grow w wr)
    case atStart => exact ⟨0, by omega, by omega, rfl, by simp, Grow.rfl' w⟩
    case round =>
      obtain ⟨k, hk, rfl, rfl, htk, hgr⟩ := hrel
      have HT := Lib.hid htk; clear htk
      by_cases hlt : k < b.length
      · have hlt' : k < a.length := by have := HL.out; omega
        obtain ⟨ba, oa, ra, rfl, hSa, hba, hRa, hca⟩ := HA.out k a[k] (List.getElem?_eq_getElem hlt')
        obtain ⟨bb, ob, rb, rfl, hSb, hbb, hRb, hcb⟩ := HB.out k b[k] (List.getElem?_eq_getElem hlt)
        obtain ⟨pva, hba', a0, a1, a2, hpa⟩ := hRa.at hba hgr hca
        obtain ⟨pvb, hbb', b0, b1, b2, hpb⟩ := hRb.at hbb hgr hcb
        clear hca hcb hRa hRb hSa hSb hba hbb
        have ea : a.take (k + 1) = a.take k ++ [a[k]] := List.take_succ_eq_append_getElem hlt'
        have eb : b.take (k + 1) = b.take k ++ [b[k]] := List.take_succ_eq_append_getElem hlt
        have EA := Lib.hid ea
        have EB := Lib.hid eb
        clear ea eb
        have hne : ¬ a[k] = b[k] → ¬ a = b := fun h e => h (by subst e; rfl)
        have HNE := Lib.hid hne; clear hne
        generalize a[k] = na at *
        generalize b[k] = nb at *
        have HPA := Lib.hid hpa
        have HPB := Lib.hid hpb
        obtain ⟨_, _, rfl⟩ := hpa.isSlice
        obtain ⟨_, _, rfl⟩ := hpb.isSlice
        clear hpa hpb
        cases hv : decide (na = nb)
        all_goals
          go_wp2_with fail
          refine wp_region_grow (by kernel_rfl) (by kernel_rfl) ?_
          repeat (go_big_quiet_step (exact calls_gr (keepNode Sa Sb na nb _ _ _ (HPA.out.grow (by rename_i g; exact g.h)) (HPB.out.grow (by rename_i g; exact g.h)))))
          refine wpQuiet_nil ?_
          intro w2 hw2
          go_wp2
        · go_ret
          exact ⟨by rw [decide_eq_false (HNE.out (of_decide_eq_false hv))]; rfl, hgr.step hw2⟩
        · go_roundg (b.length - (k + 1))
          case measure => omega
          case rel => exact ⟨k + 1, by omega, rfl, by go_num, by rw [EA.out, EB.out, HT.out, of_decide_eq_true hv], hgr.step hw2⟩
      · have hlt' : ¬ k < a.length := by have := HL.out; omega
        have hk' : k = b.length := by omega
        have hx : a = b := by
          have h1 := HT.out
          rw [List.take_of_length_le (by omega), List.take_of_length_le (by omega)] at h1
          exact h1
        have HX := Lib.hid hx; clear hx hk'
        go_wp2
        go_ret
        exact ⟨by rw [HX.out]; simp, hgr⟩
  · have hx : ¬ a = b := fun e => hlen (by rw [e])
    have HX := Lib.hid hx; clear hx
    have h1 : ¬ ((a.length : Int) = (b.length : Int)) := by omega
    go_enter Tryz.func81, Tryz.ntmps81
    go_wp2
    go_ret
    exact ⟨by rw [decide_eq_false HX.out]; rfl, Grow.rfl' w⟩

set_option maxHeartbeats 400000 in
theorem keepEdges (Sa Sb : Nat → Prop) (va vb : Value) (a b : List PEdge) (w : World) (ha : EdgesR Sa w va a) (hb : EdgesR Sb w vb b) :
    Calls Tryz.prog 82 #[va, vb] w fun e w' => e = .returned (.bool (decide (a = b))) ∧ Grow w w' := by
  obtain ⟨aa, ca, rfl, hal, hac, hA⟩ := SlR.open ha
  obtain ⟨ab, cb, rfl, hbl, hbc, hB⟩ := SlR.open hb
  clear ha hb
  unfold maxLen at hac hbc
  have HA := Lib.hid hA; clear hA
  have HB := Lib.hid hB; clear hB
  by_cases hlen : a.length = b.length
  · have HL := Lib.hid hlen
    go_enter Tryz.func82, Tryz.ntmps82
    go_wp2
    clear hlen
    go_loopg [5] b.length (fun g i wr => ∃ k : Nat, k ≤ b.length ∧ g = b.length - k ∧ i = .int .i64 k ∧ a.take k = b.take k ∧ Grow w wr)
    case atStart => exact ⟨0, by omega, by omega, rfl, by simp, Grow.rfl' w⟩
    case round =>
      obtain ⟨k, hk, rfl, rfl, htk, hgr⟩ := hrel
      have HT := Lib.hid htk; clear htk
      by_cases hlt : k < b.length
      · have hlt' : k < a.length := by have := HL.out; omega
        obtain ⟨ba, oa, ra, rfl, hSa, hba, hRa, hca⟩ := HA.out k a[k] (List.getElem?_eq_getElem hlt')
        obtain ⟨bb, ob, rb, rfl, hSb, hbb, hRb, hcb⟩ := HB.out k b[k] (List.getElem?_eq_getElem hlt)
        obtain ⟨pva, hba', a0, a1, a2, a3, a4, hpa⟩ := hRa.at hba hgr hca
        obtain ⟨pvb, hbb', b0, b1, b2, b3, b4, hpb⟩ := hRb.at hbb hgr hcb
        clear hca hcb hRa hRb hSa hSb hba hbb
        have ea : a.take (k + 1) = a.take k ++ [a[k]] := List.take_succ_eq_append_getElem hlt'
        have eb : b.take (k + 1) = b.take k ++ [b[k]] := List.take_succ_eq_append_getElem hlt
        have EA := Lib.hid ea
        have EB := Lib.hid eb
        clear ea eb
        have hne : ¬ a[k] = b[k] → ¬ a = b := fun h e => h (by subst e; rfl)
        have HNE := Lib.hid hne; clear hne
        generalize a[k] = na at *
        generalize b[k] = nb at *
        have HPA := Lib.hid hpa
        have HPB := Lib.hid hpb
        obtain ⟨_, _, rfl⟩ := hpa.isSlice
        obtain ⟨_, _, rfl⟩ := hpb.isSlice
        clear hpa hpb
        cases hv : decide (na = nb)
        all_goals
          go_wp2_with fail
          refine wp_region_grow (by kernel_rfl) (by kernel_rfl) ?_
          repeat (go_big_quiet_step (exact calls_gr (keepEdge Sa Sb na nb _ _ _ (HPA.out.grow (by rename_i g; exact g.h)) (HPB.out.grow (by rename_i g; exact g.h)))))
          refine wpQuiet_nil ?_
          intro w2 hw2
          go_wp2
        · go_ret
          exact ⟨by rw [decide_eq_false (HNE.out (of_decide_eq_false hv))]; rfl, hgr.step hw2⟩
        · go_roundg (b.length - (k + 1))
          case measure => omega
          case rel => exact ⟨k + 1, by omega, rfl, by go_num, by rw [EA.out, EB.out, HT.out, of_decide_eq_true hv], hgr.step hw2⟩
      · have hlt' : ¬ k < a.length := by have := HL.out; omega
        have hk' : k = b.length := by omega
        have hx : a = b := by
          have h1 := HT.out
          rw [List.take_of_length_le (by omega), List.take_of_length_le (by omega)] at h1
          exact h1
        have HX := Lib.hid hx; clear hx hk'
        go_wp2
        go_ret
        exact ⟨by rw [HX.out]; simp, hgr⟩
  · have hx : ¬ a = b := fun e => hlen (by rw [e])
    have HX := Lib.hid hx; clear hx
    have h1 : ¬ ((a.length : Int) = (b.length : Int)) := by omega
    go_enter Tryz.func82, Tryz.ntmps82
    go_wp2
    go_ret
    exact ⟨by rw [decide_eq_false HX.out]; rfl, Grow.rfl' w⟩

end Go.Hg

namespace Go.Hg
open Go.RowKit Go.Proofs

theorem keepNodesSame (Sa Sb : Nat → Prop) (va vb : Value) (a : List PNode) (w : World) (ha : NodesR Sa w va a) (hb : NodesR Sb w vb a) :
    Calls Tryz.prog 81 #[va, vb] w fun e w' => e = .returned (.bool true) ∧ Grow w w' :=
  (keepNodes Sa Sb va vb a a w ha hb).mono fun e w' ⟨h, g⟩ => ⟨by rw [h, decide_eq_true rfl], g⟩
theorem keepEdgesSame (Sa Sb : Nat → Prop) (va vb : Value) (a : List PEdge) (w : World) (ha : EdgesR Sa w va a) (hb : EdgesR Sb w vb a) :
    Calls Tryz.prog 82 #[va, vb] w fun e w' => e = .returned (.bool true) ∧ Grow w w' :=
  (keepEdges Sa Sb va vb a a w ha hb).mono fun e w' ⟨h, g⟩ => ⟨by rw [h, decide_eq_true rfl], g⟩
set_option maxRecDepth 100000 in
set_option maxHeartbeats 4000000 in
theorem lawSame (S1 S2 : Nat → Prop) (B1 B2 : Nat) (G : PGraph) (w : World) (h1 : GraphOk 120 S1 w B1 G) (h2 : GraphOk 55 S2 w B2 G) (hi : GInv G) :
    Calls Tryz.prog 35 #[.pointer (some ⟨B1, 0, none⟩), .pointer (some ⟨B2, 0, none⟩)] w fun e w' => e = .returned (.bool true) ∧ Grow w w' := by
  have H1 := Lib.hid h1; have H2 := Lib.hid h2; have HI := Lib.hid hi
  have HNL := Lib.hid (show G.nodes.length ≤ 1099511627776 by have := hi.items; omega)
  have HEL := Lib.hid (show G.edges.length ≤ 1099511627776 by have := hi.items; omega)
  have HNP := Lib.hid (show ∀ x ∈ G.nodes, x.props.length ≤ 1099511627776 from fun x hx => by have := (hi.nodesB x hx).2.2; omega)
  have HEP := Lib.hid (show ∀ x ∈ G.edges, x.props.length ≤ 1099511627776 from fun x hx => by have := (hi.edgesB x hx).2.2; omega)
  obtain ⟨na, nc, ea, ec, hB, c0, c1, c2, hn, he⟩ := h2.rd.read
  have HN := Lib.hid hn; have HE := Lib.hid he
  have HS := Lib.hid (show ∀ w', Grow w w' → (w'.cell? ⟨B2, 0, none⟩ = some (.slice na G.nodes.length nc) ∧ w'.cell? ⟨B2, 1, none⟩ = some (.slice ea G.edges.length ec) ∧ w'.cell? ⟨B2, 2, none⟩ = some (.int .i64 G.next)) from fun w' hg =>
    ⟨(hg.cell (p := ⟨B2, 0, none⟩) hB).trans c0, (hg.cell (p := ⟨B2, 1, none⟩) hB).trans c1, (hg.cell (p := ⟨B2, 2, none⟩) hB).trans c2⟩)
  have HD := Lib.hid (show Grow w w.drew from (Grow.rfl' w).drewd)
  clear h1 h2 hi hn he c0 c1 c2 hB
  go_enter Tryz.func35, Tryz.ntmps35
  go_wp2_with fail
  go_region_held3 (fun w' => w'.cell? ⟨B2, 0, none⟩ = some (.slice na G.nodes.length nc) ∧ w'.cell? ⟨B2, 1, none⟩ = some (.slice ea G.edges.length ec) ∧ w'.cell? ⟨B2, 2, none⟩ = some (.int .i64 G.next)) (first | exact HS.out _ HD.out | exact HS.out _ HG3.out | exact HS.out _ HG4.out | exact HS.out _ HG5.out | exact HS.out _ HG6.out) (first | (go_at_call 20; refine (graphNodes S1 B1 G _ (H1.out.rd.grow HD.out) HNL.out HNP.out).mono ?_; rintro e w3 ⟨v3, on, rfl, hon, -, hg3⟩; have HG3 := Lib.hid (HD.out.step hg3); have HON := Lib.hid (show NodesR (fun _ => True) w3 v3 G.nodes from SlR.sub (hon.toSl (S := fun _ => True) (fun _ _ => trivial)) (fun _ h => h) (fun x r _ hR => hR.sub (fun _ _ => trivial))); obtain ⟨a3, c3, rfl⟩ : ∃ a c, v3 = .slice a G.nodes.length c := (by obtain ⟨_, _, _, h⟩ := hon; obtain ⟨oa, cap, h, _⟩ := h.isSlice; exact ⟨oa, cap, h⟩); clear hon hg3) | (go_at_call 81; refine (keepNodesSame _ _ _ _ G.nodes _ HON.out (HN.out.grow HG3.out)).mono ?_; rintro e w4 ⟨rfl, hg4⟩; have HG4 := Lib.hid (HG3.out.step hg4); clear hg4) | (go_at_call 21; refine (graphEdges S1 B1 G _ (H1.out.rd.grow HG4.out) HEL.out HEP.out).mono ?_; rintro e w5 ⟨v5, oe, rfl, hoe, -, hg5⟩; have HG5 := Lib.hid (HG4.out.step hg5); have HOE := Lib.hid (show EdgesR (fun _ => True) w5 v5 G.edges from SlR.sub (hoe.toSl (S := fun _ => True) (fun _ _ => trivial)) (fun _ h => h) (fun x r _ hR => hR.sub (fun _ _ => trivial))); obtain ⟨a5, c5, rfl⟩ : ∃ a c, v5 = .slice a G.edges.length c := (by obtain ⟨_, _, _, h⟩ := hoe; obtain ⟨oa, cap, h, _⟩ := h.isSlice; exact ⟨oa, cap, h⟩); clear hoe hg5) | (go_at_call 82; refine (keepEdgesSame _ _ _ _ G.edges _ HOE.out (HE.out.grow HG5.out)).mono ?_; rintro e w6 ⟨rfl, hg6⟩; have HG6 := Lib.hid (HG5.out.step hg6); clear hg6) | (go_at_call 83; refine (graphNext S1 B1 G _ (H1.out.grow HG6.out)).mono ?_; rintro e w7 ⟨rfl, rfl⟩))
  go_wp2
  go_ret
  exact ⟨rfl, HG6.out⟩
end Go.Hg

namespace Go.Hg
open Go.RowKit Go.Proofs MapKept Go.Maps

theorem dirtySpotsNil (w : World) (a : Option Addr) (n c : Nat) : Calls Tryz.prog 38 #[.pointer none, .slice a n c] w fun e w' => e = .returned (.slice none 0 0) ∧ w = w' := by
  go_enter Tryz.func38, Tryz.ntmps38
  go_wp2
  go_ret
  exact ⟨rfl, rfl⟩

end Go.Hg

namespace Go.Hg
open Go.RowKit Go.Proofs

set_option maxRecDepth 100000 in
set_option maxHeartbeats 2000000 in
theorem keepOpEq (x : POp) (w : World) : Calls Tryz.prog 94 #[x.args, x.args] w fun e w' => e = .returned (.bool true) ∧ Grow w w' := by
  have HW := Lib.hid (show ∀ o1 o2, Grow w ((w.alloc o1).alloc o2) from fun o1 o2 => ((Grow.rfl' w).allocd o1).allocd o2)
  have HB := Lib.hid (two2 w (.cells x.cells.toArray 44 (0, 0)) (.cells x.cells.toArray 44 (0, 0)))
  go_enter Tryz.func94, Tryz.ntmps94
  go_wp2_with fail
  refine (keepValue x.v x.v _).mono ?_
  rintro e w3 ⟨rfl, g3⟩
  rw [show decide (x.v = x.v) = true from decide_eq_true rfl]
  have HG := Lib.hid ((HW.out _ _).step g3)
  obtain ⟨q1, q2⟩ := HB.out w3 g3
  have l1 := blk_lt q1
  have l2 := blk_lt q2
  have a9 : w3.cell? ⟨w.heap.size, 9, none⟩ = some (.bool x.cascade) := (blk_cell q1 _).trans rfl
  have b9 : w3.cell? ⟨w.heap.size + 1, 9, none⟩ = some (.bool x.cascade) := (blk_cell q2 _).trans rfl
  clear g3 q1 q2
  go_wp2
  all_goals go_ret
  all_goals exact ⟨by first | rfl | simp, HG.out⟩

set_option maxRecDepth 100000 in
set_option maxHeartbeats 2000000 in
theorem keepOps (S S2 : Nat → Prop) (av bv : Value) (l : List POp) (w : World) (ha : OpsR S w av l) (hb : OpsR S2 w bv l) :
    Calls Tryz.prog 42 #[av, bv] w fun e w' => e = .returned (.bool true) ∧ Grow w w' := by
  obtain ⟨aa, ca, rfl, hal, hac, hA⟩ := SlR.open ha
  obtain ⟨ab, cb, rfl, hbl, hbc, hB⟩ := SlR.open hb
  unfold maxLen at hac hbc
  have HA := Lib.hid hA; have HB := Lib.hid hB
  clear ha hb hA hB
  go_enter Tryz.func42, Tryz.ntmps42
  go_wp2
  go_loopg [5] l.length (fun g i wr => ∃ k : Nat, k ≤ l.length ∧ g = l.length - k ∧ i = .int .i64 k ∧ Grow w wr)
  case atStart => exact ⟨0, by omega, by omega, rfl, Grow.rfl' w⟩
  case round =>
    obtain ⟨k, hk, rfl, rfl, hgr⟩ := hrel
    by_cases hkl : k < l.length
    · obtain ⟨ba, oa, ra, rfl, -, hba, hRa, hca⟩ := HA.out k l[k] (List.getElem?_eq_getElem hkl)
      obtain ⟨bb, ob, rb, rfl, -, hbb, hRb, hcb⟩ := HB.out k l[k] (List.getElem?_eq_getElem hkl)
      have HS := Lib.hid (show ∀ w', Grow wr w' → OpC w' ba (oa + k * 10) l[k] ∧ OpC w' bb (ob + k * 10) l[k] from fun w' g => ⟨(opCells hRa hba (hgr.step g) hca).2, (opCells hRb hbb (hgr.step g) hcb).2⟩)
      have HG := Lib.hid hgr
      have HD := Lib.hid (show Grow wr wr.drew from (Grow.rfl' wr).drewd)
      clear hca hRa hba hcb hRb hbb hgr
      generalize l[k] = x at *
      go_wp2_with fail
      go_region_held3 (fun w' => OpC w' ba (oa + k * 10) x ∧ OpC w' bb (ob + k * 10) x) (first | exact HS.out _ HD.out | exact HS.out _ HG3.out) (first | (go_at_call 94; (refine (keepOpEq x _).mono ?_); rintro e w3 ⟨rfl, g3⟩; have HG3 := Lib.hid (HD.out.step g3); clear g3))
      go_wp2
      go_roundg (l.length - (k + 1))
      case measure => omega
      case rel => exact ⟨k + 1, by omega, rfl, by go_num, HG.out.step HG3.out⟩
    · have HG := Lib.hid hgr
      clear hgr
      go_wp2
      go_ret
      exact ⟨rfl, HG.out⟩
end Go.Hg

namespace Go.Hg
open Go.RowKit Go.Proofs

theorem NodesO.form {F : Nat → Prop} {w : World} {v : Value} {l : List PNode} (h : NodesO F w v l) : ∃ ob, OwnL w 94 3 (RNode (fun b => F b ∧ ob ≠ some b) w) v l ob ∧ ∀ g, ob = some g → F g := by
  obtain ⟨S, ob, h1, h2, h3⟩ := h
  exact ⟨ob, h3.keep (fun _ _ => rfl) (fun x r _ hR => hR.sub (fun b hb => ⟨(h1 b hb).1, fun e => (h2 b e).2 hb⟩)), fun g hg => (h2 g hg).1⟩
theorem EdgesO.form {F : Nat → Prop} {w : World} {v : Value} {l : List PEdge} (h : EdgesO F w v l) : ∃ ob, OwnL w 98 5 (REdge (fun b => F b ∧ ob ≠ some b) w) v l ob ∧ ∀ g, ob = some g → F g := by
  obtain ⟨S, ob, h1, h2, h3⟩ := h
  exact ⟨ob, h3.keep (fun _ _ => rfl) (fun x r _ hR => hR.sub (fun b hb => ⟨(h1 b hb).1, fun e => (h2 b e).2 hb⟩)), fun g hg => (h2 g hg).1⟩
end Go.Hg

namespace Go.Hg
open Go.RowKit Go.Proofs

set_option maxRecDepth 100000 in
set_option maxHeartbeats 4000000 in
theorem refCopy (S : Nat → Prop) (B : Nat) (G : PGraph) (w : World) (h : GraphRd 55 S w B G) (hn40 : G.nodes.length ≤ 1099511627776) (he40 : G.edges.length ≤ 1099511627776)
    (hpn : ∀ x ∈ G.nodes, x.props.length ≤ 1099511627776) (hpe : ∀ x ∈ G.edges, x.props.length ≤ 1099511627776) :
    Calls Tryz.prog 91 #[.pointer (some ⟨B, 0, none⟩)] w (CopyPost 55 G w) := by
  have HN40 := Lib.hid hn40; have HE40 := Lib.hid he40; have HPN := Lib.hid hpn; have HPE := Lib.hid hpe
  obtain ⟨na, nc, ea, ec, hB, g0, g1, g2, hn, he⟩ := h.read
  have HN := Lib.hid hn; have HE := Lib.hid he
  have HD := Lib.hid (show Grow w w.drew from (Grow.rfl' w).drewd)
  have HS := Lib.hid (show ∀ w', Grow w w' → (w'.cell? ⟨B, 0, none⟩ = some (.slice na G.nodes.length nc) ∧ w'.cell? ⟨B, 1, none⟩ = some (.slice ea G.edges.length ec) ∧ w'.cell? ⟨B, 2, none⟩ = some (.int .i64 G.next)) from fun w' hg => ⟨(hg.cell (p := ⟨B, 0, none⟩) hB).trans g0, (hg.cell (p := ⟨B, 1, none⟩) hB).trans g1, (hg.cell (p := ⟨B, 2, none⟩) hB).trans g2⟩)
  clear h hn he hn40 he40 hpn hpe
  go_enter Tryz.func91, Tryz.ntmps91
  go_wp2_with fail
  go_region_held3 (fun w' => w'.cell? ⟨B, 0, none⟩ = some (.slice na G.nodes.length nc) ∧ w'.cell? ⟨B, 1, none⟩ = some (.slice ea G.edges.length ec) ∧ w'.cell? ⟨B, 2, none⟩ = some (.int .i64 G.next)) (first | exact HS.out _ HD.out | exact HS.out _ (HD.out.step HG3.out) | exact HS.out _ ((HD.out.step HG3.out).step HG4.out) | exact HS.out _ (((HD.out.step HG3.out).step HG4.out).allocd _)) (first | (go_at_call 137; refine (copyNodes S _ G.nodes _ (HN.out.grow HD.out) HN40.out HPN.out).mono ?_; rintro e w3 ⟨v3, rfl, h3, hg3⟩; have H3 := Lib.hid h3; have HG3 := Lib.hid hg3; obtain ⟨a3, c3, rfl, -⟩ := SlR.open h3.toR; clear h3 hg3) | (go_at_call 138; refine (copyEdges S _ G.edges _ (HE.out.grow (HD.out.step HG3.out)) HE40.out HPE.out).mono ?_; rintro e w4 ⟨v4, rfl, h4, hg4⟩; have H4 := Lib.hid h4; have HG4 := Lib.hid hg4; obtain ⟨a4, c4, rfl, -⟩ := SlR.open h4.toR; clear h4 hg4))
  go_wp2
  go_ret
  obtain ⟨on, hon, hon2⟩ := H3.out.form
  obtain ⟨oe, hoe, hoe2⟩ := H4.out.form
  have m5 : Mod (fun b => b = w4.heap.size) w4 (w4.alloc (.cells #[.slice a3 G.nodes.length c3, .slice a4 G.edges.length c4, .int .i64 G.next] 55)) := Mod.of_grow ((Grow.rfl' w4).allocd _)
  have hcl := graph_close (T := 55) HG3.out HG4.out hon hon2 hoe hoe2 m5 (heap_alloc_new w4 _) (.inr (Nat.le_refl _))
  refine ⟨w4.heap.size, rfl, hcl.sub (fun b hb => ?_), ((HD.out.step HG3.out).step HG4.out).allocd _⟩
  rcases hb with rfl | hb
  · exact ((HD.out.step HG3.out).step HG4.out).size
  · exact Nat.le_trans HD.out.size hb

end Go.Hg

namespace Go.Hg
open Go.RowKit Go.Proofs

def spE (G : PGraph) (i : Int) : PSpot := ⟨2, ((G.edges.find? fun x => decide (x.id = i)).map (·.typ)).getD ByteArray.empty, ByteArray.empty⟩
theorem spE_of {G : PGraph} (hG : GInv G) {x : PEdge} (hx : x ∈ G.edges) : spE G x.id = ⟨2, x.typ, ByteArray.empty⟩ := by
  obtain ⟨y, hy, hm, hp⟩ := find_some_of (p := fun e : PEdge => decide (e.id = x.id)) hx (by simp)
  have : y = x := uniq_idE hG.edges hm hx (of_decide_eq_true hp)
  subst this
  unfold spE
  rw [hy]
  rfl
theorem spE_at {G : PGraph} (hG : GInv G) (id : Int) : (atG G id).map (spE G) = edSp G.edges id := by
  unfold atG edSp
  rw [List.map_map]
  exact List.map_congr_left fun x hx => spE_of hG (List.mem_filter.1 hx).1
theorem disj_run {G : PGraph} (hG : GInv G) (h : DisjG G) (l : List POp) : DisjG (runG G l) := by
  induction l generalizing G with
  | nil => exact h
  | cons o t ih => exact ih hG.stepG (disj_step hG h)
theorem noteG_5n {G : PGraph} {id : Int} {typ : ByteArray} {from_ to_ : Int} {name : ByteArray} {v : PVal} {b : Bool} (hG : GInv G) (hd : DisjG G) {x : PNode} (hx : x ∈ G.nodes) (hxi : x.id = id) : noteG G ⟨5, id, typ, from_, to_, name, v, b⟩ = [⟨1, x.typ, name⟩] := by
  unfold noteG; rw [if_neg (by simp), if_neg (by simp), if_neg (by simp), if_neg (by simp), if_pos rfl]
  obtain ⟨y, hy, hm, hp⟩ := find_some_of (p := fun e : PNode => decide (e.id = id)) hx (by simpa using hxi)
  have : y = x := uniq_id hG.nodes hm hx (by rw [of_decide_eq_true hp, hxi])
  subst this
  have h2 : (G.edges.find? fun e => decide (e.id = id)) = none := by
    rw [List.find?_eq_none]
    intro e he hp2
    have h3 := hasN_no.1 (hd e he) y hx
    have : e.id = id := by simpa using hp2
    omega
  show (match (G.nodes.find? fun x => decide (x.id = id)) with | some n => [PSpot.mk 1 n.typ name] | none => []) ++ (match (G.edges.find? fun x => decide (x.id = id)) with | some e => [PSpot.mk 2 e.typ name] | none => []) = _
  rw [hy, h2]
  rfl
theorem noteG_5e {G : PGraph} {id : Int} {typ : ByteArray} {from_ to_ : Int} {name : ByteArray} {v : PVal} {b : Bool} (hG : GInv G) (hn : hasN G id = false) {x : PEdge} (hx : x ∈ G.edges) (hxi : x.id = id) : noteG G ⟨5, id, typ, from_, to_, name, v, b⟩ = [⟨2, x.typ, name⟩] := by
  unfold noteG; rw [if_neg (by simp), if_neg (by simp), if_neg (by simp), if_neg (by simp), if_pos rfl]
  obtain ⟨y, hy, hm, hp⟩ := find_some_of (p := fun e : PEdge => decide (e.id = id)) hx (by simpa using hxi)
  have : y = x := uniq_idE hG.edges hm hx (by rw [of_decide_eq_true hp, hxi])
  subst this
  have h2 : (G.nodes.find? fun e => decide (e.id = id)) = none := by
    rw [List.find?_eq_none]
    intro e he hp2
    exact hasN_no.1 hn e he (by simpa using hp2)
  show (match (G.nodes.find? fun x => decide (x.id = id)) with | some n => [PSpot.mk 1 n.typ name] | none => []) ++ (match (G.edges.find? fun x => decide (x.id = id)) with | some e => [PSpot.mk 2 e.typ name] | none => []) = _
  rw [hy, h2]
  rfl
def RefOfP (S : Nat → Prop) (M L : List PSpot) (G : PGraph) (o : POp) (w : World) (e : Ending) (w' : World) : Prop :=
  ∃ v L', e = .returned v ∧ SpSet L' (M ++ noteG G o) ∧ L'.length ≤ L.length + G.edges.length + 2 ∧ SpotsR (fun b => S b ∨ w.heap.size ≤ b) w' v L' ∧ (L' = [] → v = .slice none 0 0) ∧ Grow w w'
set_option maxRecDepth 100000 in
set_option maxHeartbeats 8000000 in
theorem refOf1 (SG : Nat → Prop) (B : Nat) (G : PGraph) (c : PCat) (o : POp) (S : Nat → Prop) (M L : List PSpot) (lv : Value) (w : World) (hg : GraphRd 55 SG w B G) (hi : GInv G) (hd : DisjG G) (hm : mayG c o G = 0) (hL : SpSet L M) (hl : SpotsR S w lv L) (hnil : L = [] → lv = .slice none 0 0) (hb : L.length ≤ 32768) (hk : o.kind = 1) :
    Calls Tryz.prog 93 #[lv, .pointer (some ⟨B, 0, none⟩), o.args] w (RefOfP S M L G o w) := by
  have HGR := Lib.hid hg; have HI := Lib.hid hi; have HD := Lib.hid hd; have HS := Lib.hid hL; have HL := Lib.hid (show SpotsR (fun b => S b ∨ w.heap.size ≤ b) w lv L from SlR.sub hl (fun _ h => .inl h) (fun _ _ _ h => h)); have HB := Lib.hid hb; have HNIL := Lib.hid hnil
  obtain ⟨kind, id, typ, from_, to_, name, v, cascade⟩ := o
  subst hk
  have HM := Lib.hid hm
  obtain ⟨al, cl, rfl, -, -, -⟩ := SlR.open hl
  obtain ⟨na, nc, ea, ec, hB, g0, g1, g2, hn, he⟩ := hg.read
  have HW := Lib.hid (show ∀ o1 o2, Grow w (w.alloc o1) ∧ Grow w ((w.alloc o1).alloc o2) from fun o1 o2 => ⟨(Grow.rfl' w).allocd o1, ((Grow.rfl' w).allocd o1).allocd o2⟩)
  have HGC := Lib.hid (show ∀ w', Grow w w' → (B < w'.heap.size ∧ w'.cell? ⟨B, 0, none⟩ = some (.slice na G.nodes.length nc) ∧ w'.cell? ⟨B, 1, none⟩ = some (.slice ea G.edges.length ec)) from fun w' g => ⟨Nat.lt_of_lt_of_le hB g.size, (g.cell (p := ⟨B, 0, none⟩) hB).trans g0, (g.cell (p := ⟨B, 1, none⟩) hB).trans g1⟩)
  have HN := Lib.hid hn; have HE := Lib.hid he
  have HBX := Lib.hid (opBox w ⟨1, id, typ, from_, to_, name, v, cascade⟩)
  obtain ⟨W2, hW2⟩ : ∃ W2, (w.alloc (.cells #[.int .i64 1, .int .i64 id, .string typ, .int .i64 from_, .int .i64 to_, .string name, .int .i64 v.kind, .int .i64 v.n, .string v.s, .bool cascade] 44)).alloc (.cells #[.int .i64 id] 2) = W2 := ⟨_, rfl⟩
  have HG2 := Lib.hid (show Grow w W2 from hW2 ▸ (HW.out _ _).2)
  have HOP := Lib.hid (show ∀ w', Grow W2 w' → OpAt w' w.heap.size ⟨1, id, typ, from_, to_, name, v, cascade⟩ from fun w' g => by
    rw [← hW2] at g
    exact HBX.out.grow (((Grow.rfl' _).allocd _).step g))
  have HID := Lib.hid (show W2.heap[w.heap.size + 1]? = some (.cells #[.int .i64 id] 2 (0, 0)) by
    have h := heap_alloc_new (w.alloc (.cells #[.int .i64 1, .int .i64 id, .string typ, .int .i64 from_, .int .i64 to_, .string name, .int .i64 v.kind, .int .i64 v.n, .string v.s, .bool cascade] 44)) (.cells #[.int .i64 id] 2)
    rw [World.size_alloc] at h
    rw [← hW2]; exact h)
  have HW2e := Lib.hid hW2
  clear hg hi hd hm hL hl hb hn he g0 g1 g2 hB hnil hW2
  go_enter Tryz.func93, Tryz.ntmps93
  go_wp2_with fail
  rw [HW2e.out]
  clear HW2e
  refine (ref20PutS ⟨1, typ, ByteArray.empty⟩ (HL.out.grow HG2.out) HG2.out.size HS.out HNIL.out (by have := HB.out; omega)).mono ?_
  rintro e w3 ⟨v3, L3, rfl, h1, h2, h3, h5, h4⟩
  have H1 := Lib.hid h1; have H2 := Lib.hid h2; have H3 := Lib.hid h3; have H5 := Lib.hid h5; have H4 := Lib.hid (HG2.out.step h4)
  obtain ⟨_, _, rfl, _⟩ := SlR.open h3
  clear h1 h2 h3 h4 h5
  go_wp2
  go_ret
  exact ⟨_, L3, rfl, by rw [noteG_1]; exact H1.out, by have := H2.out; omega, H3.out, fun h => absurd h H5.out, H4.out⟩

set_option maxRecDepth 100000 in
set_option maxHeartbeats 8000000 in
theorem refOf3 (SG : Nat → Prop) (B : Nat) (G : PGraph) (c : PCat) (o : POp) (S : Nat → Prop) (M L : List PSpot) (lv : Value) (w : World) (hg : GraphRd 55 SG w B G) (hi : GInv G) (hd : DisjG G) (hm : mayG c o G = 0) (hL : SpSet L M) (hl : SpotsR S w lv L) (hnil : L = [] → lv = .slice none 0 0) (hb : L.length ≤ 32768) (hk : o.kind = 3) :
    Calls Tryz.prog 93 #[lv, .pointer (some ⟨B, 0, none⟩), o.args] w (RefOfP S M L G o w) := by
  have HGR := Lib.hid hg; have HI := Lib.hid hi; have HD := Lib.hid hd; have HS := Lib.hid hL; have HL := Lib.hid (show SpotsR (fun b => S b ∨ w.heap.size ≤ b) w lv L from SlR.sub hl (fun _ h => .inl h) (fun _ _ _ h => h)); have HB := Lib.hid hb; have HNIL := Lib.hid hnil
  obtain ⟨kind, id, typ, from_, to_, name, v, cascade⟩ := o
  subst hk
  have HM := Lib.hid hm
  obtain ⟨al, cl, rfl, -, -, -⟩ := SlR.open hl
  obtain ⟨na, nc, ea, ec, hB, g0, g1, g2, hn, he⟩ := hg.read
  have HW := Lib.hid (show ∀ o1 o2, Grow w (w.alloc o1) ∧ Grow w ((w.alloc o1).alloc o2) from fun o1 o2 => ⟨(Grow.rfl' w).allocd o1, ((Grow.rfl' w).allocd o1).allocd o2⟩)
  have HGC := Lib.hid (show ∀ w', Grow w w' → (B < w'.heap.size ∧ w'.cell? ⟨B, 0, none⟩ = some (.slice na G.nodes.length nc) ∧ w'.cell? ⟨B, 1, none⟩ = some (.slice ea G.edges.length ec)) from fun w' g => ⟨Nat.lt_of_lt_of_le hB g.size, (g.cell (p := ⟨B, 0, none⟩) hB).trans g0, (g.cell (p := ⟨B, 1, none⟩) hB).trans g1⟩)
  have HN := Lib.hid hn; have HE := Lib.hid he
  have HBX := Lib.hid (opBox w ⟨3, id, typ, from_, to_, name, v, cascade⟩)
  obtain ⟨W2, hW2⟩ : ∃ W2, (w.alloc (.cells #[.int .i64 3, .int .i64 id, .string typ, .int .i64 from_, .int .i64 to_, .string name, .int .i64 v.kind, .int .i64 v.n, .string v.s, .bool cascade] 44)).alloc (.cells #[.int .i64 id] 2) = W2 := ⟨_, rfl⟩
  have HG2 := Lib.hid (show Grow w W2 from hW2 ▸ (HW.out _ _).2)
  have HOP := Lib.hid (show ∀ w', Grow W2 w' → OpAt w' w.heap.size ⟨3, id, typ, from_, to_, name, v, cascade⟩ from fun w' g => by
    rw [← hW2] at g
    exact HBX.out.grow (((Grow.rfl' _).allocd _).step g))
  have HID := Lib.hid (show W2.heap[w.heap.size + 1]? = some (.cells #[.int .i64 id] 2 (0, 0)) by
    have h := heap_alloc_new (w.alloc (.cells #[.int .i64 3, .int .i64 id, .string typ, .int .i64 from_, .int .i64 to_, .string name, .int .i64 v.kind, .int .i64 v.n, .string v.s, .bool cascade] 44)) (.cells #[.int .i64 id] 2)
    rw [World.size_alloc] at h
    rw [← hW2]; exact h)
  have HW2e := Lib.hid hW2
  clear hg hi hd hm hL hl hb hn he g0 g1 g2 hB hnil hW2
  go_enter Tryz.func93, Tryz.ntmps93
  go_wp2_with fail
  rw [HW2e.out]
  clear HW2e
  refine (ref20PutS ⟨2, typ, ByteArray.empty⟩ (HL.out.grow HG2.out) HG2.out.size HS.out HNIL.out (by have := HB.out; omega)).mono ?_
  rintro e w3 ⟨v3, L3, rfl, h1, h2, h3, h5, h4⟩
  have H1 := Lib.hid h1; have H2 := Lib.hid h2; have H3 := Lib.hid h3; have H5 := Lib.hid h5; have H4 := Lib.hid (HG2.out.step h4)
  obtain ⟨_, _, rfl, _⟩ := SlR.open h3
  clear h1 h2 h3 h4 h5
  go_wp2
  go_ret
  exact ⟨_, L3, rfl, by rw [noteG_3]; exact H1.out, by have := H2.out; omega, H3.out, fun h => absurd h H5.out, H4.out⟩

set_option maxRecDepth 100000 in
set_option maxHeartbeats 8000000 in
theorem refOf4 (SG : Nat → Prop) (B : Nat) (G : PGraph) (c : PCat) (o : POp) (S : Nat → Prop) (M L : List PSpot) (lv : Value) (w : World) (hg : GraphRd 55 SG w B G) (hi : GInv G) (hd : DisjG G) (hm : mayG c o G = 0) (hL : SpSet L M) (hl : SpotsR S w lv L) (hnil : L = [] → lv = .slice none 0 0) (hb : L.length ≤ 32768) (hk : o.kind = 4) :
    Calls Tryz.prog 93 #[lv, .pointer (some ⟨B, 0, none⟩), o.args] w (RefOfP S M L G o w) := by
  have HGR := Lib.hid hg; have HI := Lib.hid hi; have HD := Lib.hid hd; have HS := Lib.hid hL; have HL := Lib.hid (show SpotsR (fun b => S b ∨ w.heap.size ≤ b) w lv L from SlR.sub hl (fun _ h => .inl h) (fun _ _ _ h => h)); have HB := Lib.hid hb; have HNIL := Lib.hid hnil
  obtain ⟨kind, id, typ, from_, to_, name, v, cascade⟩ := o
  subst hk
  have HM := Lib.hid hm
  obtain ⟨al, cl, rfl, -, -, -⟩ := SlR.open hl
  obtain ⟨na, nc, ea, ec, hB, g0, g1, g2, hn, he⟩ := hg.read
  have HW := Lib.hid (show ∀ o1 o2, Grow w (w.alloc o1) ∧ Grow w ((w.alloc o1).alloc o2) from fun o1 o2 => ⟨(Grow.rfl' w).allocd o1, ((Grow.rfl' w).allocd o1).allocd o2⟩)
  have HGC := Lib.hid (show ∀ w', Grow w w' → (B < w'.heap.size ∧ w'.cell? ⟨B, 0, none⟩ = some (.slice na G.nodes.length nc) ∧ w'.cell? ⟨B, 1, none⟩ = some (.slice ea G.edges.length ec)) from fun w' g => ⟨Nat.lt_of_lt_of_le hB g.size, (g.cell (p := ⟨B, 0, none⟩) hB).trans g0, (g.cell (p := ⟨B, 1, none⟩) hB).trans g1⟩)
  have HN := Lib.hid hn; have HE := Lib.hid he
  have HBX := Lib.hid (opBox w ⟨4, id, typ, from_, to_, name, v, cascade⟩)
  obtain ⟨W2, hW2⟩ : ∃ W2, (w.alloc (.cells #[.int .i64 4, .int .i64 id, .string typ, .int .i64 from_, .int .i64 to_, .string name, .int .i64 v.kind, .int .i64 v.n, .string v.s, .bool cascade] 44)).alloc (.cells #[.int .i64 id] 2) = W2 := ⟨_, rfl⟩
  have HG2 := Lib.hid (show Grow w W2 from hW2 ▸ (HW.out _ _).2)
  have HOP := Lib.hid (show ∀ w', Grow W2 w' → OpAt w' w.heap.size ⟨4, id, typ, from_, to_, name, v, cascade⟩ from fun w' g => by
    rw [← hW2] at g
    exact HBX.out.grow (((Grow.rfl' _).allocd _).step g))
  have HID := Lib.hid (show W2.heap[w.heap.size + 1]? = some (.cells #[.int .i64 id] 2 (0, 0)) by
    have h := heap_alloc_new (w.alloc (.cells #[.int .i64 4, .int .i64 id, .string typ, .int .i64 from_, .int .i64 to_, .string name, .int .i64 v.kind, .int .i64 v.n, .string v.s, .bool cascade] 44)) (.cells #[.int .i64 id] 2)
    rw [World.size_alloc] at h
    rw [← hW2]; exact h)
  have HW2e := Lib.hid hW2
  clear hg hi hd hm hL hl hb hn he g0 g1 g2 hB hnil hW2
  go_enter Tryz.func93, Tryz.ntmps93
  have HIN := Lib.hid (show ∀ i ∈ [id], ∃ x ∈ G.edges, x.id = i from fun i hi => by
    rw [List.mem_singleton] at hi
    subst hi
    have h := may_has4 HM.out
    unfold hasE at h
    obtain ⟨x, hx, hp⟩ := List.any_eq_true.1 h
    exact ⟨x, hx, by simpa using hp⟩)
  have HIF := Lib.hid (show ∀ (k : Nat) (hk : k < [id].length), ∀ w', Grow W2 w' → w'.cell? ⟨w.heap.size + 1, k, none⟩ = some (.int .i64 [id][k]) from fun k hk w' g => by
    obtain rfl : k = 0 := by simpa using hk
    exact (blk_cell ((g.heapEq (blk_lt HID.out)).trans HID.out) _).trans rfl)
  have HLI := Lib.hid (show [id].length ≤ 1024 by simp)
  have HL0 := Lib.hid (And.intro HS.out (And.intro (HL.out.grow HG2.out) HNIL.out))
  have HNT := Lib.hid (show noteG G ⟨4, id, typ, from_, to_, name, v, cascade⟩ = [id].map (spE G) by
    have h := may_has4 HM.out
    unfold hasE at h
    obtain ⟨x, hx, hp⟩ := List.any_eq_true.1 h
    have hxi : x.id = id := by simpa using hp
    subst hxi
    rw [noteG_4 (t := x.typ) (bn := true) (by
      obtain ⟨y, hy, hm2, hp2⟩ := find_some_of (p := fun e : PEdge => decide (e.id = x.id)) hx (by simp)
      have : y = x := uniq_idE HI.out.edges hm2 hx (of_decide_eq_true hp2)
      subst this
      unfold EdgeGot
      rw [hy]
      exact ⟨rfl, rfl⟩) (may_has4 HM.out), List.map_cons, List.map_nil, spE_of HI.out hx])
  go_wp2
  rw [HW2e.out]
  clear HW2e
  go_loopg [0, 9] ([id]).length (fun g lv iv wr => ∃ (k : Nat) (Lk : List PSpot), k ≤ ([id]).length ∧ g = ([id]).length - k ∧ iv = .int .i64 k ∧ SpSet Lk (M ++ (([id]).take k).map (spE G)) ∧ Lk.length ≤ (L).length + k ∧ SpotsR (fun b => S b ∨ w.heap.size ≤ b) wr lv Lk ∧ (Lk = [] → lv = .slice none 0 0) ∧ Grow W2 wr)
  case atStart => exact ⟨0, L, by omega, by omega, rfl, by simpa using HL0.out.1, by omega, HL0.out.2.1, HL0.out.2.2, Grow.rfl' _⟩
  case round =>
    obtain ⟨k, Lk, hk, rfl, rfl, hs, hlen, hsp, hnilk, hgr⟩ := hrel
    obtain ⟨aK, cK, rfl, -, -, -⟩ := SlR.open hsp
    have HS2 := Lib.hid hs; have HLN := Lib.hid hlen; have HSP := Lib.hid hsp; have HNILk := Lib.hid hnilk; have HGW := Lib.hid hgr
    clear hs hlen hsp hgr hnilk
    by_cases hkl : k < ([id]).length
    · have hk24 : k < 1024 := by have := HLI.out; omega
      have HT := Lib.hid (show ([id]).take (k + 1) = ([id]).take k ++ [([id])[k]] from List.take_succ_eq_append_getElem hkl)
      have hci := HIF.out k hkl
      have hkb : decide ((k : Int) < 1) = true := by simp at hkl ⊢; omega
      have hkb2 : (k : Int) < 1 := by simp at hkl; omega
      have hkb3 : (0 : Int) ≤ (k : Int) := by omega
      obtain ⟨x, hxm, hxi⟩ := HIN.out _ (List.getElem_mem hkl)
      obtain ⟨j, xj, hz, hjl, hxj, hidj, -⟩ : ∃ (j : Nat) (y : PEdge), idxZ (fun x : PEdge => x.id) G.edges ([id])[k] = j ∧ j < G.edges.length ∧ G.edges[j]? = some y ∧ y.id = ([id])[k] ∧ True := by
        obtain ⟨j, y, q1, q2, q3, q4⟩ := idxZ_some (f := fun x : PEdge => x.id) (l := G.edges) (id := ([id])[k]) (List.any_eq_true.2 ⟨x, hxm, by simpa using hxi⟩)
        exact ⟨j, y, q1, q2, q3, q4, trivial⟩
      have HSX := Lib.hid (show spE G ([id])[k] = ⟨2, xj.typ, ByteArray.empty⟩ by rw [← hidj]; exact spE_of HI.out (List.mem_of_getElem? hxj))
      have HZ := Lib.hid hz
      obtain ⟨_, _, hev, -, hecm, hA⟩ := SlR.open HE.out
      simp only [Value.slice.injEq, true_and] at hev
      obtain ⟨rfl, rfl⟩ := hev
      obtain ⟨be, oe, re, rfl, -, hbe, hRe, hce⟩ := hA j xj hxj
      have HCE := Lib.hid (show ∀ w', Grow w w' → w'.cell? ⟨be, oe + j * 5 + 1, none⟩ = some (.string xj.typ) from fun w' g => by
        obtain ⟨pv, q0, q1, q2, -⟩ := hRe.at hbe g hce
        exact q2)
      have HCI := Lib.hid (show ∀ w', Grow W2 w' → w'.cell? ⟨w.heap.size + 1, k, none⟩ = some (.int .i64 ([id])[k]) from hci)
      have HSS := Lib.hid (show ∀ w', Grow wr w' → (w'.cell? ⟨B, 1, none⟩ = some (.slice (some ⟨be, oe, none⟩) G.edges.length ec) ∧ w'.cell? ⟨w.heap.size + 1, k, none⟩ = some (.int .i64 ([id])[k]) ∧ w'.cell? ⟨be, oe + j * 5 + 1, none⟩ = some (.string xj.typ)) from fun w' g => ⟨(HGC.out w' (HG2.out.step (HGW.out.step g))).2.2, HCI.out w' (HGW.out.step g), HCE.out w' (HG2.out.step (HGW.out.step g))⟩)
      have HD1 := Lib.hid (show Grow wr wr.drew from (Grow.rfl' wr).drewd)
      have hj0 : (0 : Int) ≤ (j : Int) := by omega
      have hj1 : (j : Int) < (G.edges.length : Int) := by omega
      clear hci hA hbe hRe hce hxi hxm hidj hz hxj
      generalize ([id])[k] = idk at *
      go_wp2_with fail
      go_region_held3 (fun w' => w'.cell? ⟨B, 1, none⟩ = some (.slice (some ⟨be, oe, none⟩) G.edges.length ec) ∧ w'.cell? ⟨w.heap.size + 1, k, none⟩ = some (.int .i64 idk) ∧ w'.cell? ⟨be, oe + j * 5 + 1, none⟩ = some (.string xj.typ)) (first | exact HSS.out _ HD1.out | exact HSS.out _ HG5.out) (first | (go_at_call 100; (refine (refEdge SG B G idk _ (HGR.out.grow (HG2.out.step (HGW.out.step HD1.out)))).mono ?_); rintro e w4 ⟨rfl, rfl⟩; rw [HZ.out]) | (go_at_call 95; (refine (ref20PutS ⟨2, xj.typ, ByteArray.empty⟩ (HSP.out.grow HD1.out) (HG2.out.step (HGW.out.step HD1.out)).size HS2.out HNILk.out (by have := HLN.out; have := HB.out; have := HLI.out; first | omega | (have := H2.out; omega))).mono ?_); rintro e w5 ⟨v5, L5, rfl, h1, h2, h3, h5, h4⟩; have J1 := Lib.hid h1; have J2 := Lib.hid h2; have J3 := Lib.hid h3; have J5 := Lib.hid h5; have HG5 := Lib.hid (HD1.out.step h4); obtain ⟨_, _, rfl, _⟩ := SlR.open h3; clear h1 h2 h3 h4 h5))
      all_goals go_wp2
      all_goals go_roundg (([id]).length - (k + 1))
      case measure => omega
      case rel => exact ⟨k + 1, L5, by omega, rfl, by go_num, by rw [HT.out, List.map_append, ← List.append_assoc, List.map_cons, List.map_nil, HSX.out]; exact J1.out, by have := J2.out; have := HLN.out; omega, J3.out, fun h => absurd h J5.out, HGW.out.step HG5.out⟩
    · have hkk : ([id]).take k = ([id]) := List.take_of_length_le (by omega)
      rw [hkk] at HS2
      clear hkk
      have hkb : decide ((k : Int) < 1) = false := by simp at hkl ⊢; omega
      go_wp2
      go_ret
      exact ⟨_, Lk, rfl, by rw [HNT.out]; exact HS2.out, by have := HLN.out; have h1 : [id].length = 1 := rfl; omega, HSP.out, HNILk.out, HG2.out.step HGW.out⟩

set_option maxRecDepth 100000 in
set_option maxHeartbeats 8000000 in
theorem refOf2 (SG : Nat → Prop) (B : Nat) (G : PGraph) (c : PCat) (o : POp) (S : Nat → Prop) (M L : List PSpot) (lv : Value) (w : World) (hg : GraphRd 55 SG w B G) (hi : GInv G) (hd : DisjG G) (hm : mayG c o G = 0) (hL : SpSet L M) (hl : SpotsR S w lv L) (hnil : L = [] → lv = .slice none 0 0) (hb : L.length ≤ 32768) (hk : o.kind = 2) :
    Calls Tryz.prog 93 #[lv, .pointer (some ⟨B, 0, none⟩), o.args] w (RefOfP S M L G o w) := by
  have HGR := Lib.hid hg; have HI := Lib.hid hi; have HD := Lib.hid hd; have HS := Lib.hid hL; have HL := Lib.hid (show SpotsR (fun b => S b ∨ w.heap.size ≤ b) w lv L from SlR.sub hl (fun _ h => .inl h) (fun _ _ _ h => h)); have HB := Lib.hid hb; have HNIL := Lib.hid hnil
  obtain ⟨kind, id, typ, from_, to_, name, v, cascade⟩ := o
  subst hk
  have HM := Lib.hid hm
  obtain ⟨al, cl, rfl, -, -, -⟩ := SlR.open hl
  obtain ⟨na, nc, ea, ec, hB, g0, g1, g2, hn, he⟩ := hg.read
  have HW := Lib.hid (show ∀ o1 o2, Grow w (w.alloc o1) ∧ Grow w ((w.alloc o1).alloc o2) from fun o1 o2 => ⟨(Grow.rfl' w).allocd o1, ((Grow.rfl' w).allocd o1).allocd o2⟩)
  have HGC := Lib.hid (show ∀ w', Grow w w' → (B < w'.heap.size ∧ w'.cell? ⟨B, 0, none⟩ = some (.slice na G.nodes.length nc) ∧ w'.cell? ⟨B, 1, none⟩ = some (.slice ea G.edges.length ec)) from fun w' g => ⟨Nat.lt_of_lt_of_le hB g.size, (g.cell (p := ⟨B, 0, none⟩) hB).trans g0, (g.cell (p := ⟨B, 1, none⟩) hB).trans g1⟩)
  have HN := Lib.hid hn; have HE := Lib.hid he
  have HBX := Lib.hid (opBox w ⟨2, id, typ, from_, to_, name, v, cascade⟩)
  obtain ⟨W2, hW2⟩ : ∃ W2, (w.alloc (.cells #[.int .i64 2, .int .i64 id, .string typ, .int .i64 from_, .int .i64 to_, .string name, .int .i64 v.kind, .int .i64 v.n, .string v.s, .bool cascade] 44)).alloc (.cells #[.int .i64 id] 2) = W2 := ⟨_, rfl⟩
  have HG2 := Lib.hid (show Grow w W2 from hW2 ▸ (HW.out _ _).2)
  have HOP := Lib.hid (show ∀ w', Grow W2 w' → OpAt w' w.heap.size ⟨2, id, typ, from_, to_, name, v, cascade⟩ from fun w' g => by
    rw [← hW2] at g
    exact HBX.out.grow (((Grow.rfl' _).allocd _).step g))
  have HID := Lib.hid (show W2.heap[w.heap.size + 1]? = some (.cells #[.int .i64 id] 2 (0, 0)) by
    have h := heap_alloc_new (w.alloc (.cells #[.int .i64 2, .int .i64 id, .string typ, .int .i64 from_, .int .i64 to_, .string name, .int .i64 v.kind, .int .i64 v.n, .string v.s, .bool cascade] 44)) (.cells #[.int .i64 id] 2)
    rw [World.size_alloc] at h
    rw [← hW2]; exact h)
  have HW2e := Lib.hid hW2
  clear hg hi hd hm hL hl hb hn he g0 g1 g2 hB hnil hW2
  go_enter Tryz.func93, Tryz.ntmps93
  obtain ⟨j0, x0, hz, hjl, hx0, hid0⟩ := idxZ_some (f := fun x : PNode => x.id) (l := G.nodes) (id := id) (may_has2 HM.out)
  have HZ0 := Lib.hid hz
  have HNT := Lib.hid (show noteG G ⟨2, id, typ, from_, to_, name, v, cascade⟩ = [⟨1, x0.typ, ByteArray.empty⟩] ++ (atG G id).map (spE G) by
    rw [spE_at HI.out]
    refine noteG_2 (bn := true) ?_ (may_has2 HM.out)
    obtain ⟨y, hy, hm2, hp2⟩ := find_some_of (p := fun e : PNode => decide (e.id = id)) (List.mem_of_getElem? hx0) (by simpa using hid0)
    have : y = x0 := uniq_id HI.out.nodes hm2 (List.mem_of_getElem? hx0) (by rw [of_decide_eq_true hp2]; exact hid0.symm)
    subst this
    unfold NodeGot
    rw [hy]
    exact ⟨rfl, rfl⟩)
  obtain ⟨_, _, hnv, -, -, hA⟩ := SlR.open HN.out
  simp only [Value.slice.injEq, true_and] at hnv
  obtain ⟨rfl, rfl⟩ := hnv
  obtain ⟨bn, on, rn, rfl, -, hbn, hRn, hcn⟩ := hA j0 x0 hx0
  have HCN := Lib.hid (show ∀ w', Grow w w' → w'.cell? ⟨bn, on + j0 * 3 + 1, none⟩ = some (.string x0.typ) from fun w' g => by
    obtain ⟨pv, q0, q1, q2, -⟩ := hRn.at hbn g hcn
    exact q2)
  have HSS := Lib.hid (show ∀ w', Grow W2 w' → (w'.cell? ⟨B, 0, none⟩ = some (.slice (some ⟨bn, on, none⟩) G.nodes.length nc) ∧ w'.cell? ⟨w.heap.size, 1, none⟩ = some (.int .i64 id) ∧ w'.cell? ⟨bn, on + j0 * 3 + 1, none⟩ = some (.string x0.typ)) from fun w' g => ⟨(HGC.out w' (HG2.out.step g)).2.1, (HOP.out w' g).at.2.2.1, HCN.out w' (HG2.out.step g)⟩)
  have HD0 := Lib.hid (show Grow W2 W2.drew from (Grow.rfl' W2).drewd)
  have hj0 : (0 : Int) ≤ (j0 : Int) := by omega
  have hj1 : (j0 : Int) < (G.nodes.length : Int) := by omega
  clear hA hbn hRn hcn hz hx0 hid0
  go_wp2_with fail
  rw [HW2e.out]
  clear HW2e
  go_region_held3 (fun w' => w'.cell? ⟨B, 0, none⟩ = some (.slice (some ⟨bn, on, none⟩) G.nodes.length nc) ∧ w'.cell? ⟨w.heap.size, 1, none⟩ = some (.int .i64 id) ∧ w'.cell? ⟨bn, on + j0 * 3 + 1, none⟩ = some (.string x0.typ)) (first | exact HSS.out _ HD0.out | exact HSS.out _ HG3.out) (first | (go_at_call 98; (refine (refNode SG B G id _ (HGR.out.grow (HG2.out.step HD0.out))).mono ?_); rintro e w4 ⟨rfl, rfl⟩; rw [HZ0.out]) | (go_at_call 95; (refine (ref20PutS ⟨1, x0.typ, ByteArray.empty⟩ (HL.out.grow (HG2.out.step HD0.out)) (HG2.out.step HD0.out).size HS.out HNIL.out (by have := HB.out; omega)).mono ?_); rintro e w3 ⟨v3, L3, rfl, h1, h2, h3, h5, h4⟩; have H1 := Lib.hid h1; have H2 := Lib.hid h2; have H3 := Lib.hid h3; have H5 := Lib.hid h5; have HG3 := Lib.hid (HD0.out.step h4); obtain ⟨a3, c3, rfl, _⟩ := SlR.open h3; clear h1 h2 h3 h4 h5))
  obtain ⟨hol, p0, p1, -⟩ := (HOP.out w3 HG3.out).at
  have HG23 := Lib.hid (HG2.out.step HG3.out)
  go_wp2_with fail
  refine (refAt SG B G id w3 (HGR.out.grow HG23.out) (by have := HI.out.items; omega)).mono ?_
  rintro e w6 ⟨v6, ob6, rfl, h6o, hob6, g6⟩
  have h6 := h6o.toR (S := fun _ => True) (fun _ _ => trivial)
  clear h6o hob6
  have HG6 := Lib.hid (HG23.out.step g6)
  obtain ⟨a6, c6, rfl, -, h6c, hA6⟩ := SlR.open h6
  unfold maxLen at h6c
  have HIF := Lib.hid (show ∀ (k : Nat) (hk : k < (atG G id).length), ∃ bi oi, a6 = some (⟨bi, oi, none⟩ : Addr) ∧ ∀ w', Grow w6 w' → w'.cell? ⟨bi, oi + k, none⟩ = some (.int .i64 (atG G id)[k]) from fun k hk => by
    obtain ⟨b, off, r, e1, -, hb, hR, hc⟩ := hA6 k _ (List.getElem?_eq_getElem hk)
    refine ⟨b, off, e1, fun w' g => ?_⟩
    have h0 := hc 0 (.int .i64 (atG G id)[k]) (by rw [hR]; rfl)
    rw [Nat.mul_one] at h0
    exact (g.cell (p := ⟨b, off + k, none⟩) hb).trans h0)
  have HIN := Lib.hid (show ∀ i ∈ atG G id, ∃ x ∈ G.edges, x.id = i from fun i hi => by
    unfold atG at hi
    obtain ⟨x, hx, rfl⟩ := List.mem_map.1 hi
    exact ⟨x, (List.mem_filter.1 hx).1, rfl⟩)
  have HLE := Lib.hid (show (atG G id).length ≤ G.edges.length by unfold atG; rw [List.length_map]; exact List.length_filter_le _ _)
  have HLI := Lib.hid (show (atG G id).length ≤ 1024 by have := HLE.out; have := HI.out.items; omega)
  have HL0 := Lib.hid (And.intro H1.out (And.intro (H3.out.grow g6) (show L3 = [] → Value.slice a3 L3.length c3 = .slice none 0 0 from fun h => absurd h H5.out)))
  clear hA6 h6 g6 hol p0 p1
  go_wp2
  go_loopg [0, 9] (atG G id).length (fun g lv iv wr => ∃ (k : Nat) (Lk : List PSpot), k ≤ (atG G id).length ∧ g = (atG G id).length - k ∧ iv = .int .i64 k ∧ SpSet Lk ((M ++ [⟨1, x0.typ, ByteArray.empty⟩]) ++ ((atG G id).take k).map (spE G)) ∧ Lk.length ≤ (L3).length + k ∧ SpotsR (fun b => S b ∨ w.heap.size ≤ b) wr lv Lk ∧ (Lk = [] → lv = .slice none 0 0) ∧ Grow w6 wr)
  case atStart => exact ⟨0, L3, by omega, by omega, rfl, by simpa using HL0.out.1, by omega, HL0.out.2.1, HL0.out.2.2, Grow.rfl' _⟩
  case round =>
    obtain ⟨k, Lk, hk, rfl, rfl, hs, hlen, hsp, hnilk, hgr⟩ := hrel
    obtain ⟨aK, cK, rfl, -, -, -⟩ := SlR.open hsp
    have HS2 := Lib.hid hs; have HLN := Lib.hid hlen; have HSP := Lib.hid hsp; have HNILk := Lib.hid hnilk; have HGW := Lib.hid hgr
    clear hs hlen hsp hgr hnilk
    by_cases hkl : k < (atG G id).length
    · have hk24 : k < 1024 := by have := HLI.out; omega
      have HT := Lib.hid (show (atG G id).take (k + 1) = (atG G id).take k ++ [(atG G id)[k]] from List.take_succ_eq_append_getElem hkl)
      obtain ⟨bi, oi, rfl, hci⟩ := HIF.out k hkl
      obtain ⟨x, hxm, hxi⟩ := HIN.out _ (List.getElem_mem hkl)
      obtain ⟨j, xj, hz, hjl, hxj, hidj, -⟩ : ∃ (j : Nat) (y : PEdge), idxZ (fun x : PEdge => x.id) G.edges (atG G id)[k] = j ∧ j < G.edges.length ∧ G.edges[j]? = some y ∧ y.id = (atG G id)[k] ∧ True := by
        obtain ⟨j, y, q1, q2, q3, q4⟩ := idxZ_some (f := fun x : PEdge => x.id) (l := G.edges) (id := (atG G id)[k]) (List.any_eq_true.2 ⟨x, hxm, by simpa using hxi⟩)
        exact ⟨j, y, q1, q2, q3, q4, trivial⟩
      have HSX := Lib.hid (show spE G (atG G id)[k] = ⟨2, xj.typ, ByteArray.empty⟩ by rw [← hidj]; exact spE_of HI.out (List.mem_of_getElem? hxj))
      have HZ := Lib.hid hz
      obtain ⟨_, _, hev, -, hecm, hA⟩ := SlR.open HE.out
      simp only [Value.slice.injEq, true_and] at hev
      obtain ⟨rfl, rfl⟩ := hev
      obtain ⟨be, oe, re, rfl, -, hbe, hRe, hce⟩ := hA j xj hxj
      have HCE := Lib.hid (show ∀ w', Grow w w' → w'.cell? ⟨be, oe + j * 5 + 1, none⟩ = some (.string xj.typ) from fun w' g => by
        obtain ⟨pv, q0, q1, q2, -⟩ := hRe.at hbe g hce
        exact q2)
      have HCI := Lib.hid (show ∀ w', Grow w6 w' → w'.cell? ⟨bi, oi + k, none⟩ = some (.int .i64 (atG G id)[k]) from hci)
      have HSS := Lib.hid (show ∀ w', Grow wr w' → (w'.cell? ⟨B, 1, none⟩ = some (.slice (some ⟨be, oe, none⟩) G.edges.length ec) ∧ w'.cell? ⟨bi, oi + k, none⟩ = some (.int .i64 (atG G id)[k]) ∧ w'.cell? ⟨be, oe + j * 5 + 1, none⟩ = some (.string xj.typ)) from fun w' g => ⟨(HGC.out w' (HG6.out.step (HGW.out.step g))).2.2, HCI.out w' (HGW.out.step g), HCE.out w' (HG6.out.step (HGW.out.step g))⟩)
      have HD1 := Lib.hid (show Grow wr wr.drew from (Grow.rfl' wr).drewd)
      have hj0 : (0 : Int) ≤ (j : Int) := by omega
      have hj1 : (j : Int) < (G.edges.length : Int) := by omega
      clear hci hA hbe hRe hce hxi hxm hidj hz hxj
      generalize (atG G id)[k] = idk at *
      go_wp2_with fail
      go_region_held3 (fun w' => w'.cell? ⟨B, 1, none⟩ = some (.slice (some ⟨be, oe, none⟩) G.edges.length ec) ∧ w'.cell? ⟨bi, oi + k, none⟩ = some (.int .i64 idk) ∧ w'.cell? ⟨be, oe + j * 5 + 1, none⟩ = some (.string xj.typ)) (first | exact HSS.out _ HD1.out | exact HSS.out _ HG5.out) (first | (go_at_call 100; (refine (refEdge SG B G idk _ (HGR.out.grow (HG6.out.step (HGW.out.step HD1.out)))).mono ?_); rintro e w4 ⟨rfl, rfl⟩; rw [HZ.out]) | (go_at_call 95; (refine (ref20PutS ⟨2, xj.typ, ByteArray.empty⟩ (HSP.out.grow HD1.out) (HG6.out.step (HGW.out.step HD1.out)).size HS2.out HNILk.out (by have := HLN.out; have := HB.out; have := HLI.out; first | omega | (have := H2.out; omega))).mono ?_); rintro e w5 ⟨v5, L5, rfl, h1, h2, h3, h5, h4⟩; have J1 := Lib.hid h1; have J2 := Lib.hid h2; have J3 := Lib.hid h3; have J5 := Lib.hid h5; have HG5 := Lib.hid (HD1.out.step h4); obtain ⟨_, _, rfl, _⟩ := SlR.open h3; clear h1 h2 h3 h4 h5))
      all_goals go_wp2
      all_goals go_roundg ((atG G id).length - (k + 1))
      case measure => omega
      case rel => exact ⟨k + 1, L5, by omega, rfl, by go_num, by rw [HT.out, List.map_append, ← List.append_assoc, List.map_cons, List.map_nil, HSX.out]; exact J1.out, by have := J2.out; have := HLN.out; omega, J3.out, fun h => absurd h J5.out, HGW.out.step HG5.out⟩
    · have hkk : (atG G id).take k = (atG G id) := List.take_of_length_le (by omega)
      rw [hkk] at HS2
      clear hkk
      go_wp2
      go_ret
      exact ⟨_, Lk, rfl, by rw [HNT.out, ← List.append_assoc]; exact HS2.out, by have := HLN.out; have := H2.out; have := HLE.out; omega, HSP.out, HNILk.out, HG6.out.step HGW.out⟩

set_option maxRecDepth 100000 in
set_option maxHeartbeats 8000000 in
theorem refOf5 (SG : Nat → Prop) (B : Nat) (G : PGraph) (c : PCat) (o : POp) (S : Nat → Prop) (M L : List PSpot) (lv : Value) (w : World) (hg : GraphRd 55 SG w B G) (hi : GInv G) (hd : DisjG G) (hm : mayG c o G = 0) (hL : SpSet L M) (hl : SpotsR S w lv L) (hnil : L = [] → lv = .slice none 0 0) (hb : L.length ≤ 32768) (hk : o.kind = 5) :
    Calls Tryz.prog 93 #[lv, .pointer (some ⟨B, 0, none⟩), o.args] w (RefOfP S M L G o w) := by
  have HGR := Lib.hid hg; have HI := Lib.hid hi; have HD := Lib.hid hd; have HS := Lib.hid hL; have HL := Lib.hid (show SpotsR (fun b => S b ∨ w.heap.size ≤ b) w lv L from SlR.sub hl (fun _ h => .inl h) (fun _ _ _ h => h)); have HB := Lib.hid hb; have HNIL := Lib.hid hnil
  obtain ⟨kind, id, typ, from_, to_, name, v, cascade⟩ := o
  subst hk
  have HM := Lib.hid hm
  obtain ⟨al, cl, rfl, -, -, -⟩ := SlR.open hl
  obtain ⟨na, nc, ea, ec, hB, g0, g1, g2, hn, he⟩ := hg.read
  have HW := Lib.hid (show ∀ o1 o2, Grow w (w.alloc o1) ∧ Grow w ((w.alloc o1).alloc o2) from fun o1 o2 => ⟨(Grow.rfl' w).allocd o1, ((Grow.rfl' w).allocd o1).allocd o2⟩)
  have HGC := Lib.hid (show ∀ w', Grow w w' → (B < w'.heap.size ∧ w'.cell? ⟨B, 0, none⟩ = some (.slice na G.nodes.length nc) ∧ w'.cell? ⟨B, 1, none⟩ = some (.slice ea G.edges.length ec)) from fun w' g => ⟨Nat.lt_of_lt_of_le hB g.size, (g.cell (p := ⟨B, 0, none⟩) hB).trans g0, (g.cell (p := ⟨B, 1, none⟩) hB).trans g1⟩)
  have HN := Lib.hid hn; have HE := Lib.hid he
  have HBX := Lib.hid (opBox w ⟨5, id, typ, from_, to_, name, v, cascade⟩)
  obtain ⟨W2, hW2⟩ : ∃ W2, (w.alloc (.cells #[.int .i64 5, .int .i64 id, .string typ, .int .i64 from_, .int .i64 to_, .string name, .int .i64 v.kind, .int .i64 v.n, .string v.s, .bool cascade] 44)).alloc (.cells #[.int .i64 id] 2) = W2 := ⟨_, rfl⟩
  have HG2 := Lib.hid (show Grow w W2 from hW2 ▸ (HW.out _ _).2)
  have HOP := Lib.hid (show ∀ w', Grow W2 w' → OpAt w' w.heap.size ⟨5, id, typ, from_, to_, name, v, cascade⟩ from fun w' g => by
    rw [← hW2] at g
    exact HBX.out.grow (((Grow.rfl' _).allocd _).step g))
  have HID := Lib.hid (show W2.heap[w.heap.size + 1]? = some (.cells #[.int .i64 id] 2 (0, 0)) by
    have h := heap_alloc_new (w.alloc (.cells #[.int .i64 5, .int .i64 id, .string typ, .int .i64 from_, .int .i64 to_, .string name, .int .i64 v.kind, .int .i64 v.n, .string v.s, .bool cascade] 44)) (.cells #[.int .i64 id] 2)
    rw [World.size_alloc] at h
    rw [← hW2]; exact h)
  have HW2e := Lib.hid hW2
  clear hg hi hd hm hL hl hb hn he g0 g1 g2 hB hnil hW2
  go_enter Tryz.func93, Tryz.ntmps93
  have HSSN := Lib.hid (show ∀ w', Grow W2 w' → (w'.cell? ⟨w.heap.size, 1, none⟩ = some (.int .i64 id) ∧ w'.cell? ⟨w.heap.size, 5, none⟩ = some (.string name)) from fun w' g => ⟨(HOP.out w' g).at.2.2.1, (HOP.out w' g).at.2.2.2.2.2.2.1⟩)
  have HD0 := Lib.hid (show Grow W2 W2.drew from (Grow.rfl' W2).drewd)
  obtain ⟨hol, p0, p1, -⟩ := (HOP.out W2 (Grow.rfl' _)).at
  go_wp2_with fail
  rw [HW2e.out]
  clear HW2e
  refine (refNode SG B G id W2 (HGR.out.grow HG2.out)).mono ?_
  rintro e w4 ⟨rfl, rfl⟩
  cases hh : hasN G id
  · have hz : idxZ (fun x : PNode => x.id) G.nodes id = -1 := idxZ_none hh
    have HHN := Lib.hid hh
    rw [hz]
    have HHE := Lib.hid (show hasE G id = true by
      obtain ⟨ps, hps⟩ := may_find5 HM.out
      cases hhe : hasE G id
      · rw [findP_no hh hhe] at hps; cases hps
      · rfl)
    clear hh hz
    obtain ⟨j0, x0, hz, hjl, hx0, hid0⟩ := idxZ_some (f := fun x : PEdge => x.id) (l := G.edges) (id := id) HHE.out
    have HZ0 := Lib.hid hz
    have HNT := Lib.hid (show noteG G ⟨5, id, typ, from_, to_, name, v, cascade⟩ = [⟨2, x0.typ, name⟩] from noteG_5e HI.out HHN.out (List.mem_of_getElem? hx0) hid0)
    obtain ⟨_, _, hnv, -, -, hA⟩ := SlR.open HE.out
    simp only [Value.slice.injEq, true_and] at hnv
    obtain ⟨rfl, rfl⟩ := hnv
    obtain ⟨bn, on, rn, rfl, -, hbn, hRn, hcn⟩ := hA j0 x0 hx0
    have HCN := Lib.hid (show ∀ w', Grow w w' → w'.cell? ⟨bn, on + j0 * 5 + 1, none⟩ = some (.string x0.typ) from fun w' g => by
      obtain ⟨pv, q0, q1, q2, -⟩ := hRn.at hbn g hcn
      exact q2)
    have HSS := Lib.hid (show ∀ w', Grow w4 w' → (w'.cell? ⟨B, 1, none⟩ = some (.slice (some ⟨bn, on, none⟩) G.edges.length ec) ∧ w'.cell? ⟨w.heap.size, 1, none⟩ = some (.int .i64 id) ∧ w'.cell? ⟨bn, on + j0 * 5 + 1, none⟩ = some (.string x0.typ) ∧ w'.cell? ⟨w.heap.size, 5, none⟩ = some (.string name)) from fun w' g => ⟨(HGC.out w' (HG2.out.step g)).2.2, (HSSN.out w' g).1, HCN.out w' (HG2.out.step g), (HSSN.out w' g).2⟩)
    have hj0 : (0 : Int) ≤ (j0 : Int) := by omega
    have hj1 : (j0 : Int) < (G.edges.length : Int) := by omega
    clear hA hbn hRn hcn hz hx0 hid0 hol p0 p1
    go_wp2_with fail
    go_region_held3 (fun w' => w'.cell? ⟨B, 1, none⟩ = some (.slice (some ⟨bn, on, none⟩) G.edges.length ec) ∧ w'.cell? ⟨w.heap.size, 1, none⟩ = some (.int .i64 id) ∧ w'.cell? ⟨bn, on + j0 * 5 + 1, none⟩ = some (.string x0.typ) ∧ w'.cell? ⟨w.heap.size, 5, none⟩ = some (.string name)) (first | exact HSS.out _ HD0.out | exact HSS.out _ HG3.out) (first | (go_at_call 100; (refine (refEdge SG B G id _ (HGR.out.grow (HG2.out.step HD0.out))).mono ?_); rintro e w6 ⟨rfl, rfl⟩; rw [HZ0.out]) | (go_at_call 95; (refine (ref20PutS ⟨2, x0.typ, name⟩ (HL.out.grow (HG2.out.step HD0.out)) (HG2.out.step HD0.out).size HS.out HNIL.out (by have := HB.out; omega)).mono ?_); rintro e w3 ⟨v3, L3, rfl, h1, h2, h3, h5, h4⟩; have H1 := Lib.hid h1; have H2 := Lib.hid h2; have H3 := Lib.hid h3; have H5 := Lib.hid h5; have HG3 := Lib.hid (HD0.out.step h4); obtain ⟨_, _, rfl, _⟩ := SlR.open h3; clear h1 h2 h3 h4 h5))
    all_goals go_wp2
    all_goals go_ret
    all_goals exact ⟨_, L3, rfl, by rw [HNT.out]; exact H1.out, by have := H2.out; omega, H3.out, fun h => absurd h H5.out, HG2.out.step HG3.out⟩
  · obtain ⟨j0, x0, hz, hjl, hx0, hid0⟩ := idxZ_some (f := fun x : PNode => x.id) (l := G.nodes) (id := id) hh
    rw [hz]
    have HNT := Lib.hid (show noteG G ⟨5, id, typ, from_, to_, name, v, cascade⟩ = [⟨1, x0.typ, name⟩] from noteG_5n HI.out HD.out (List.mem_of_getElem? hx0) hid0)
    obtain ⟨_, _, hnv, -, -, hA⟩ := SlR.open HN.out
    simp only [Value.slice.injEq, true_and] at hnv
    obtain ⟨rfl, rfl⟩ := hnv
    obtain ⟨bn, on, rn, rfl, -, hbn, hRn, hcn⟩ := hA j0 x0 hx0
    have HCN := Lib.hid (show ∀ w', Grow w w' → w'.cell? ⟨bn, on + j0 * 3 + 1, none⟩ = some (.string x0.typ) from fun w' g => by
      obtain ⟨pv, q0, q1, q2, -⟩ := hRn.at hbn g hcn
      exact q2)
    have HSS := Lib.hid (show ∀ w', Grow w4 w' → (w'.cell? ⟨B, 0, none⟩ = some (.slice (some ⟨bn, on, none⟩) G.nodes.length nc) ∧ w'.cell? ⟨bn, on + j0 * 3 + 1, none⟩ = some (.string x0.typ) ∧ w'.cell? ⟨w.heap.size, 5, none⟩ = some (.string name)) from fun w' g => ⟨(HGC.out w' (HG2.out.step g)).2.1, HCN.out w' (HG2.out.step g), (HSSN.out w' g).2⟩)
    have hj0 : (0 : Int) ≤ (j0 : Int) := by omega
    have hj1 : (j0 : Int) < (G.nodes.length : Int) := by omega
    have hge : decide (0 ≤ (j0 : Int)) = true := by simp
    clear hA hbn hRn hcn hz hx0 hid0 hol p0 p1
    go_wp2_with fail
    go_region_held3 (fun w' => w'.cell? ⟨B, 0, none⟩ = some (.slice (some ⟨bn, on, none⟩) G.nodes.length nc) ∧ w'.cell? ⟨bn, on + j0 * 3 + 1, none⟩ = some (.string x0.typ) ∧ w'.cell? ⟨w.heap.size, 5, none⟩ = some (.string name)) (first | exact HSS.out _ HD0.out | exact HSS.out _ HG3.out) (first | (go_at_call 95; (refine (ref20PutS ⟨1, x0.typ, name⟩ (HL.out.grow (HG2.out.step HD0.out)) (HG2.out.step HD0.out).size HS.out HNIL.out (by have := HB.out; omega)).mono ?_); rintro e w3 ⟨v3, L3, rfl, h1, h2, h3, h5, h4⟩; have H1 := Lib.hid h1; have H2 := Lib.hid h2; have H3 := Lib.hid h3; have H5 := Lib.hid h5; have HG3 := Lib.hid (HD0.out.step h4); obtain ⟨_, _, rfl, _⟩ := SlR.open h3; clear h1 h2 h3 h4 h5))
    all_goals go_wp2
    all_goals go_ret
    all_goals exact ⟨_, L3, rfl, by rw [HNT.out]; exact H1.out, by have := H2.out; omega, H3.out, fun h => absurd h H5.out, HG2.out.step HG3.out⟩

theorem ref20Of (SG : Nat → Prop) (B : Nat) (G : PGraph) (c : PCat) (o : POp) (S : Nat → Prop) (M L : List PSpot) (lv : Value) (w : World) (hg : GraphRd 55 SG w B G) (hi : GInv G) (hd : DisjG G) (hm : mayG c o G = 0) (hL : SpSet L M) (hl : SpotsR S w lv L) (hnil : L = [] → lv = .slice none 0 0) (hb : L.length ≤ 32768) :
    Calls Tryz.prog 93 #[lv, .pointer (some ⟨B, 0, none⟩), o.args] w (RefOfP S M L G o w) := by
  rcases may_kind hm with hk | hk | hk | hk | hk
  · exact refOf1 SG B G c o S M L lv w hg hi hd hm hL hl hnil hb hk
  · exact refOf2 SG B G c o S M L lv w hg hi hd hm hL hl hnil hb hk
  · exact refOf3 SG B G c o S M L lv w hg hi hd hm hL hl hnil hb hk
  · exact refOf4 SG B G c o S M L lv w hg hi hd hm hL hl hnil hb hk
  · exact refOf5 SG B G c o S M L lv w hg hi hd hm hL hl hnil hb hk
end Go.Hg
