/- (undo.Trail).back: what takes a change back that is to come; A trail: the plain words, what lies there; A row of numbers of one's own, made since a block: the law of append; A row of structs of one's own, made since a block: the law of append; A drawn region whose last operation z may turn what the others read: S is asked of the others alone; what z waits for may be taken first; (undo.Trail).cut, Undo: changes are taken back; (undo.Trail).find, Undo; slices.Delete of one mark; a drawn region that ends in a store: an operation that the store waits for by way of another. Conditions: those that each theorem names. -/
import Derived.WalkKit
import Derived.WalkSpells
import Derived.WalkLawsBesides
import Derived.Lib.Hide
import Derived.BigQuiet
import Derived.Deep.LoopGhost
import Derived.Maps.OwnOps
import Derived.Maps.OwnSet
import Derived.Carry
import Derived.Test.YtfachjfohhhgeaaGreatRows
import Derived.Lib.SlKeysI
import Derived.Lib.SliceRun
import Derived.WideMake
import Derived.Deep.RegionLaw
import Derived.Lib.Overlaps
import Derived.Deep.RegionHeld3
import Derived.Laws.ResultCell
import Derived.Shelf.SlSortCmp.WholeK
import Derived.Laws.EntriesVeiled
import Derived.Test.YtfachjfohhhgeaaGreatUnG
namespace Go.Hg
open Go.RowKit Go.Proofs

def BackRes (B : Nat) (o : POp) (G : PGraph) (w : World) (e : Ending) (w' : World) : Prop := ∃ fv, e = .returned fv ∧ BackV (fun b => w.heap.size ≤ b) w' B o G fv ∧ Grow w w'
theorem boxAtU {w w' : World} {n : Nat} {cs : Array Value} {T : TypeId} (K : Nat → Prop) (hK : K w.heap.size) (g : Grow (w.alloc (.cells cs T)) w') (e : w.heap.size = n := by rfl) : BoxU K w' n cs T := by
  subst e
  exact ⟨hK, (g.heapEq (by simp)).trans (heap_alloc_new w _)⟩

set_option maxRecDepth 100000 in
set_option maxHeartbeats 2000000 in
theorem undoBack1 (S : Nat → Prop) (A B : Nat) (lv mv : Value) (G : PGraph) (o : POp) (w : World) (hA : w.heap[A]? = some (.cells #[capU B, lv, mv] 74 (0, 0))) (h : GraphOk 101 S w B G) (hg : goodG G = true) (hm : mayG typesC o G = 0) (hk : o.kind = 1) :
    Calls Tryz.prog 41 #[capU A, o.args] w (BackRes B o G w) := by
  have HOK := Lib.hid h; have HGD := Lib.hid hg
  obtain ⟨hi, hx⟩ := goodG_iff.1 hg
  have HI := Lib.hid hi
  obtain ⟨kind, id, typ, from_, to_, name, v, cascade⟩ := o
  subst hk
  have HM := Lib.hid hm
  have hlA := blk_lt hA
  have a0 : ∀ o1, (w.alloc o1).cell? ⟨A, 0, none⟩ = some (capU B) := fun o1 => (blk_cell ((((Grow.rfl' w).allocd o1).heapEq hlA).trans hA) 0).trans rfl
  have HA := Lib.hid hA
  have HW2 := Lib.hid (show ∀ o1 o2, Grow w ((w.alloc o1).alloc o2) from fun o1 o2 => ((Grow.rfl' w).allocd o1).allocd o2)
  clear h hg hm hi hx hA
  go_enter Tryz.func41, Tryz.ntmps41
  go_wp2_with fail
  refine (graphNext S B G _ (HOK.out.grow (HW2.out _ _))).mono ?_
  rintro e w2 ⟨rfl, hw2⟩
  subst hw2
  have HL := Lib.hid (show ∀ o1 o2 o3, Grow w (((w.alloc o1).alloc o2).alloc o3) from fun o1 o2 o3 => (((Grow.rfl' w).allocd o1).allocd o2).allocd o3)
  go_wp2
  go_ret
  refine ⟨_, rfl, ⟨w.heap.size + 1, ?_, .inl ⟨.inl rfl, w.heap.size + 1 + 1, ?_, rfl⟩⟩, HL.out _ _ _⟩
  · exact ⟨Nat.le_succ _, ((Grow.rfl' _).allocd _).heapEq (by simp) |>.trans ((by simp : (w.alloc (.cells _ _)).heap.size = w.heap.size + 1) ▸ heap_alloc_new (w.alloc _) _)⟩
  · exact ⟨Nat.le_trans (Nat.le_succ _) (Nat.le_succ _), (by simp : ((w.alloc (.cells _ _)).alloc (.cells _ _)).heap.size = w.heap.size + 1 + 1) ▸ heap_alloc_new ((w.alloc _).alloc _) _⟩

set_option maxRecDepth 100000 in
set_option maxHeartbeats 2000000 in
theorem undoBack3 (S : Nat → Prop) (A B : Nat) (lv mv : Value) (G : PGraph) (o : POp) (w : World) (hA : w.heap[A]? = some (.cells #[capU B, lv, mv] 74 (0, 0))) (h : GraphOk 101 S w B G) (hg : goodG G = true) (hm : mayG typesC o G = 0) (hk : o.kind = 3) :
    Calls Tryz.prog 41 #[capU A, o.args] w (BackRes B o G w) := by
  have HOK := Lib.hid h; have HGD := Lib.hid hg
  obtain ⟨hi, hx⟩ := goodG_iff.1 hg
  have HI := Lib.hid hi
  obtain ⟨kind, id, typ, from_, to_, name, v, cascade⟩ := o
  subst hk
  have HM := Lib.hid hm
  have hlA := blk_lt hA
  have a0 : ∀ o1, (w.alloc o1).cell? ⟨A, 0, none⟩ = some (capU B) := fun o1 => (blk_cell ((((Grow.rfl' w).allocd o1).heapEq hlA).trans hA) 0).trans rfl
  have HA := Lib.hid hA
  have HW2 := Lib.hid (show ∀ o1 o2, Grow w ((w.alloc o1).alloc o2) from fun o1 o2 => ((Grow.rfl' w).allocd o1).allocd o2)
  clear h hg hm hi hx hA
  go_enter Tryz.func41, Tryz.ntmps41
  go_wp2_with fail
  refine (graphNext S B G _ (HOK.out.grow (HW2.out _ _))).mono ?_
  rintro e w2 ⟨rfl, hw2⟩
  subst hw2
  have HL := Lib.hid (show ∀ o1 o2 o3, Grow w (((w.alloc o1).alloc o2).alloc o3) from fun o1 o2 o3 => (((Grow.rfl' w).allocd o1).allocd o2).allocd o3)
  go_wp2
  go_ret
  refine ⟨_, rfl, ⟨w.heap.size + 1, ?_, .inl ⟨.inr rfl, w.heap.size + 1 + 1, ?_, rfl⟩⟩, HL.out _ _ _⟩
  · exact ⟨Nat.le_succ _, ((Grow.rfl' _).allocd _).heapEq (by simp) |>.trans ((by simp : (w.alloc (.cells _ _)).heap.size = w.heap.size + 1) ▸ heap_alloc_new (w.alloc _) _)⟩
  · exact ⟨Nat.le_trans (Nat.le_succ _) (Nat.le_succ _), (by simp : ((w.alloc (.cells _ _)).alloc (.cells _ _)).heap.size = w.heap.size + 1 + 1) ▸ heap_alloc_new ((w.alloc _).alloc _) _⟩

set_option maxRecDepth 100000 in
set_option maxHeartbeats 2000000 in
theorem undoBack5 (S : Nat → Prop) (A B : Nat) (lv mv : Value) (G : PGraph) (o : POp) (w : World) (hA : w.heap[A]? = some (.cells #[capU B, lv, mv] 74 (0, 0))) (h : GraphOk 101 S w B G) (hg : goodG G = true) (hm : mayG typesC o G = 0) (hk : o.kind = 5) :
    Calls Tryz.prog 41 #[capU A, o.args] w (BackRes B o G w) := by
  have HOK := Lib.hid h; have HGD := Lib.hid hg
  obtain ⟨hi, hx⟩ := goodG_iff.1 hg
  have HI := Lib.hid hi
  obtain ⟨kind, id, typ, from_, to_, name, v, cascade⟩ := o
  subst hk
  have HM := Lib.hid hm
  have hlA := blk_lt hA
  have a0 : ∀ o1, (w.alloc o1).cell? ⟨A, 0, none⟩ = some (capU B) := fun o1 => (blk_cell ((((Grow.rfl' w).allocd o1).heapEq hlA).trans hA) 0).trans rfl
  have HA := Lib.hid hA
  have HW2 := Lib.hid (show ∀ o1 o2, Grow w ((w.alloc o1).alloc o2) from fun o1 o2 => ((Grow.rfl' w).allocd o1).allocd o2)
  clear h hg hm hi hx hA
  go_enter Tryz.func41, Tryz.ntmps41
  go_wp2_with fail
  refine (graphNext S B G _ (HOK.out.grow (HW2.out _ _))).mono ?_
  rintro e w2 ⟨rfl, hw2⟩
  subst hw2
  obtain ⟨ps, hps⟩ := may_find5 HM.out
  have HPS := Lib.hid hps
  have HL := Lib.hid (show ∀ o1 o2 o3, Grow w (((w.alloc o1).alloc o2).alloc o3) from fun o1 o2 o3 => (((Grow.rfl' w).allocd o1).allocd o2).allocd o3)
  have hB3 : ∀ o1 o2 o3, Grow (w.alloc o1) (((w.alloc o1).alloc o2).alloc o3) := fun o1 o2 o3 => ((Grow.rfl' _).allocd o2).allocd o3
  have hB4 : ∀ o1 o2 o3, Grow ((w.alloc o1).alloc o2) (((w.alloc o1).alloc o2).alloc o3) := fun o1 o2 o3 => (Grow.rfl' _).allocd o3
  clear hps
  go_wp2_with fail
  refine (undoProp S B G id name ps _ (HOK.out.grow (HL.out _ _ _)) HGD.out HPS.out).mono ?_
  rintro e w4 ⟨rfl, hg4⟩
  have HG4 := Lib.hid ((HL.out _ _ _).step hg4)
  have HBO := Lib.hid (boxAtU (fun b => w.heap.size ≤ b) (Nat.le_refl _) ((hB3 _ _ _).step hg4))
  have HBG := Lib.hid (boxAtU (fun b => w.heap.size ≤ b) (by simp) ((hB4 _ _ _).step hg4) (n := w.heap.size + 1) (by simp))
  clear hB3 hB4 hg4
  go_wp2
  go_ret
  refine ⟨_, rfl, ⟨w.heap.size + 1, HBG.out.mod (Mod.of_grow (F := fun _ => False) ((Grow.rfl' _).allocd _)) (fun _ _ h => h), .inr (.inl ⟨rfl, w.heap.size, w4.heap.size, ps, HPS.out, HBO.out.mod (Mod.of_grow (F := fun _ => False) ((Grow.rfl' _).allocd _)) (fun _ _ h => h), ?_, rfl⟩)⟩, HG4.out.allocd _⟩
  exact boxAtU (fun b => w.heap.size ≤ b) HG4.out.size (Grow.rfl' _)

set_option maxRecDepth 100000 in
set_option maxHeartbeats 2000000 in
theorem undoBack4 (S : Nat → Prop) (A B : Nat) (lv mv : Value) (G : PGraph) (o : POp) (w : World) (hA : w.heap[A]? = some (.cells #[capU B, lv, mv] 74 (0, 0))) (h : GraphOk 101 S w B G) (hg : goodG G = true) (hm : mayG typesC o G = 0) (hk : o.kind = 4) :
    Calls Tryz.prog 41 #[capU A, o.args] w (BackRes B o G w) := by
  have HOK := Lib.hid h; have HGD := Lib.hid hg
  obtain ⟨hi, hx⟩ := goodG_iff.1 hg
  have HI := Lib.hid hi
  obtain ⟨kind, id, typ, from_, to_, name, v, cascade⟩ := o
  subst hk
  have HM := Lib.hid hm
  have hlA := blk_lt hA
  have a0 : ∀ o1, (w.alloc o1).cell? ⟨A, 0, none⟩ = some (capU B) := fun o1 => (blk_cell ((((Grow.rfl' w).allocd o1).heapEq hlA).trans hA) 0).trans rfl
  have HA := Lib.hid hA
  have HW2 := Lib.hid (show ∀ o1 o2, Grow w ((w.alloc o1).alloc o2) from fun o1 o2 => ((Grow.rfl' w).allocd o1).allocd o2)
  clear h hg hm hi hx hA
  go_enter Tryz.func41, Tryz.ntmps41
  go_wp2_with fail
  refine (graphNext S B G _ (HOK.out.grow (HW2.out _ _))).mono ?_
  rintro e w2 ⟨rfl, hw2⟩
  subst hw2
  have hh := may_has4 HM.out
  have HL := Lib.hid (show ∀ o1 o2 o3, Grow w (((w.alloc o1).alloc o2).alloc o3) from fun o1 o2 o3 => (((Grow.rfl' w).allocd o1).allocd o2).allocd o3)
  have hB4 : ∀ o1 o2 o3, Grow ((w.alloc o1).alloc o2) (((w.alloc o1).alloc o2).alloc o3) := fun o1 o2 o3 => (Grow.rfl' _).allocd o3
  have HHE := Lib.hid hh
  clear hh
  go_wp2_with fail
  refine (graphGetEdge S B G id _ (HOK.out.rd.grow (HL.out _ _ _)) HI.out.edges (by have := HI.out.items; omega) (fun x hx => by have := (HI.out.edgesB x hx).2.2; omega)).mono ?_
  rintro e w4 ⟨he, hg4⟩
  have HG4 := Lib.hid ((HL.out _ _ _).step hg4)
  have HBG := Lib.hid (boxAtU (fun b => w.heap.size ≤ b) (by simp) ((hB4 _ _ _).step hg4) (n := w.heap.size + 1) (by simp))
  rcases he with ⟨hfe, -⟩ | ⟨x, pv, hfe, rfl, hpv⟩
  · exfalso
    have h1 := HHE.out
    rw [List.find?_eq_none] at hfe
    exact absurd h1 (by unfold hasE; rw [Bool.not_eq_true, List.any_eq_false]; exact hfe)
  have HXM := Lib.hid (List.mem_of_find?_eq_some hfe)
  have HXI := Lib.hid (show x.id = id by simpa using List.find?_some hfe)
  have HPV := Lib.hid (hpv.sub (S' := fun b => w.heap.size ≤ b) (fun b hb => by simp at hb; omega))
  obtain ⟨pa, pc, rfl⟩ := hpv.isSlice
  clear hB4 hg4 hfe hpv
  go_wp2
  go_ret
  refine ⟨_, rfl, ⟨w.heap.size + 1, HBG.out.mod (Mod.of_grow (F := fun _ => False) ((Grow.rfl' _).allocd _)) (fun _ _ h => h), .inr (.inr (.inl ⟨rfl, w4.heap.size, x, _, HXM.out, HXI.out, ?_, HPV.out.grow ((Grow.rfl' _).allocd _), rfl⟩))⟩, HG4.out.allocd _⟩
  exact boxAtU (fun b => w.heap.size ≤ b) HG4.out.size (Grow.rfl' _)

theorem snocE {R R' : Nat → Prop} {w w' w2 : World} {v' : Value} {l : List PEdge} {x : PEdge} {pv : Value} {rows : List (List Value)} {ob ob' : Option Nat} (h1 : rows.length = l.length)
    (h2 : ∀ (k : Nat) y r, l[k]? = some y → rows[k]? = some r → REdge R w y r ∧ r.length = 5) (g : Grow w w') (hm : Mod (fun k => ob = some k) w' w2) (hR : ∀ b, R b → ob ≠ some b) (hRR : ∀ b, R b → b < w.heap.size → R' b) (hp : PropsR R' w2 pv x.props)
    (k1 : OwnS w2 91 5 v' (l.length + 1) (rows.flatten ++ [.int .i64 x.id, .string x.typ, .int .i64 x.from_, .int .i64 x.to_, pv]) ob') : OwnL w2 91 5 (REdge R' w2) v' (l ++ [x]) ob' := by
  obtain ⟨c1, c2⟩ := joinRows (Q := REdge R' w2) (sz := 5) (m := [x]) (r2 := [[.int .i64 x.id, .string x.typ, .int .i64 x.from_, .int .i64 x.to_, pv]]) h1 (fun k y r hy hr => by
    obtain ⟨p, q⟩ := h2 k y r hy hr
    exact ⟨(((p.cut).mod (Mod.of_grow (F := fun _ => False) g) (fun _ _ h => h)).mod hm (fun b hb hh => hR b hb.1 hh)).sub (fun b hb => hRR b hb.1 hb.2), q⟩) rfl (fun k y r hy hr => by
    cases k with
    | zero => simp at hy hr; subst hy; subst hr; exact ⟨⟨_, rfl, hp⟩, rfl⟩
    | succ k => simp at hy)
  refine ⟨_, c1, c2, ?_⟩
  rw [List.flatten_append, List.length_append]
  simpa using k1

set_option maxRecDepth 100000 in
set_option maxHeartbeats 2000000 in
theorem undoBack2 (S : Nat → Prop) (A B : Nat) (lv mv : Value) (G : PGraph) (o : POp) (w : World) (hA : w.heap[A]? = some (.cells #[capU B, lv, mv] 74 (0, 0))) (h : GraphOk 101 S w B G) (hg : goodG G = true) (hm : mayG typesC o G = 0) (hk : o.kind = 2) :
    Calls Tryz.prog 41 #[capU A, o.args] w (BackRes B o G w) := by
  have HOK := Lib.hid h; have HGD := Lib.hid hg
  obtain ⟨hi, hx⟩ := goodG_iff.1 hg
  have HI := Lib.hid hi
  obtain ⟨kind, id, typ, from_, to_, name, v, cascade⟩ := o
  subst hk
  have HM := Lib.hid hm
  have hlA := blk_lt hA
  have a0 : ∀ o1, (w.alloc o1).cell? ⟨A, 0, none⟩ = some (capU B) := fun o1 => (blk_cell ((((Grow.rfl' w).allocd o1).heapEq hlA).trans hA) 0).trans rfl
  have HA := Lib.hid hA
  have HW2 := Lib.hid (show ∀ o1 o2, Grow w ((w.alloc o1).alloc o2) from fun o1 o2 => ((Grow.rfl' w).allocd o1).allocd o2)
  clear h hg hm hi hx hA
  go_enter Tryz.func41, Tryz.ntmps41
  go_wp2_with fail
  refine (graphNext S B G _ (HOK.out.grow (HW2.out _ _))).mono ?_
  rintro e w2 ⟨rfl, hw2⟩
  subst hw2
  have hh := may_has2 HM.out
  have HL := Lib.hid (show ∀ o1 o2 o3, Grow w (((w.alloc o1).alloc o2).alloc o3) from fun o1 o2 o3 => (((Grow.rfl' w).allocd o1).allocd o2).allocd o3)
  have hB3 : ∀ o1 o2 o3, Grow (w.alloc o1) (((w.alloc o1).alloc o2).alloc o3) := fun o1 o2 o3 => ((Grow.rfl' _).allocd o2).allocd o3
  have hB4 : ∀ o1 o2 o3, Grow ((w.alloc o1).alloc o2) (((w.alloc o1).alloc o2).alloc o3) := fun o1 o2 o3 => (Grow.rfl' _).allocd o3
  have HHN := Lib.hid hh
  clear hh
  go_wp2_with fail
  refine (graphGetNode S B G id _ (HOK.out.rd.grow (HL.out _ _ _)) HI.out.nodes (by have := HI.out.items; omega) (fun x hx => by have := (HI.out.nodesB x hx).2.2; omega)).mono ?_
  rintro e w4 ⟨he, hg4⟩
  have HG4 := Lib.hid ((HL.out _ _ _).step hg4)
  have HBO := Lib.hid (boxAtU (fun b => w.heap.size ≤ b) (Nat.le_refl _) ((hB3 _ _ _).step hg4))
  have HBG := Lib.hid (boxAtU (fun b => w.heap.size ≤ b) (by simp) ((hB4 _ _ _).step hg4) (n := w.heap.size + 1) (by simp))
  rcases he with ⟨hfe, -⟩ | ⟨x, pv, hfe, rfl, hpv⟩
  · exfalso
    have h1 := HHN.out
    rw [List.find?_eq_none] at hfe
    exact absurd h1 (by unfold hasN; rw [Bool.not_eq_true, List.any_eq_false]; exact hfe)
  have HXM := Lib.hid (List.mem_of_find?_eq_some hfe)
  have HXI := Lib.hid (show x.id = id by simpa using List.find?_some hfe)
  have HPV := Lib.hid (hpv.sub (S' := fun b => w.heap.size ≤ b) (fun b hb => by simp at hb; omega)).cut
  obtain ⟨pa, pc, rfl⟩ := hpv.isSlice
  have hz4 : w.heap.size + 1 + 1 < w4.heap.size := by have := hg4.size; simp at this; omega
  have hz41 : w.heap.size + 1 < w4.heap.size := by omega
  have hz40 : w.heap.size < w4.heap.size := by omega
  clear hB3 hB4 hg4 hfe hpv
  have b1 : w4.cell? ⟨w.heap.size + 1, 0, none⟩ = some (capU B) := (blk_cell HBG.out.2 0).trans rfl
  have HG5 := Lib.hid (show ∀ o1 o2, Grow w4 ((w4.alloc o1).alloc o2) from fun o1 o2 => ((Grow.rfl' w4).allocd o1).allocd o2)
  go_wp2_with fail
  refine (graphEdges S B G _ (HOK.out.rd.grow (HG4.out.step (HG5.out _ _))) (by have := HI.out.items; omega) (fun x hx => by have := (HI.out.edgesB x hx).2.2; omega)).mono ?_
  rintro e w6 ⟨v6, ob6, rfl, hown6, hob6, hg6⟩
  have HG46 := Lib.hid ((HG5.out _ _).step hg6)
  have HNB := Lib.hid ((boxAtU (fun b => w.heap.size ≤ b) HG4.out.size ((Grow.rfl' _).allocd _)).mod (Mod.of_grow (F := fun _ => False) hg6) (fun _ _ h => h))
  obtain ⟨iE, hiE, hzE0, hzE1, hzE2⟩ := info_parts infoEdge
  have HEB := Lib.hid ((hg6.heapEq (by simp)).trans ((by simp : (w4.alloc (.cells _ _)).heap.size = w4.heap.size + 1) ▸ heap_alloc_new (w4.alloc _) _))
  have hz6 : w4.heap.size + 1 < w6.heap.size := by have := hg6.size; simp at this; omega
  have HER := Lib.hid (show EdgesR (fun b => w4.heap.size + 1 < b ∧ b < w6.heap.size) w6 v6 G.edges from
    SlR.sub (slCut (hown6.toSl (S := fun b => w4.heap.size + 1 < b) (fun g hg => by have := hob6 g hg; simp at this; omega))) (fun b h => h) (fun y r _ hR => hR.cut.sub (fun b hb => ⟨by have := hb.1.1; simp at this; omega, hb.2⟩)))
  have HIT := Lib.hid (show G.edges.length ≤ 1024 by have := HI.out.items; omega)
  obtain ⟨a6, c6, rfl⟩ : ∃ a c, v6 = .slice a G.edges.length c := by obtain ⟨_, _, _, h⟩ := hown6; obtain ⟨oa, cap, h, _⟩ := h.isSlice; exact ⟨oa, cap, h⟩
  clear hown6 hob6 hg6
  go_wp2
  go_loopg [56] G.edges.length (fun gg i wr => ∃ (k : Nat) (v : Value) (ob : Option Nat), k ≤ G.edges.length ∧ gg = G.edges.length - k ∧ i = .int .i64 k ∧ wr.heap[w4.heap.size + 1]? = some (.cells #[v] 84 (0, 0)) ∧
    OwnL wr 91 5 (REdge (fun b => w4.heap.size + 1 < b ∧ ob ≠ some b) wr) v ((G.edges.take k).filter fun y => atE y id) ob ∧ (∀ g, ob = some g → w6.heap.size ≤ g) ∧ Mod (fun b => b = w4.heap.size + 1) w6 wr)
  case atStart =>
    refine ⟨0, _, none, Nat.zero_le _, by omega, rfl, HEB.out, OwnL.nil _ _ _ _, by simp, Mod.rfl' _ _⟩
  case round =>
    obtain ⟨k, v, ob, hk, rfl, rfl, hvb, hown, hob, hmod⟩ := hrel
    have hll : ((G.edges.take k).filter fun y => atE y id).length ≤ k := Nat.le_trans (List.length_filter_le _ _) (by rw [List.length_take]; omega)
    have hl0 : ∃ l, l = ((G.edges.take k).filter fun y => atE y id) := ⟨_, rfl⟩
    obtain ⟨l, hl⟩ := hl0
    rw [← hl] at hown hll
    have HLF := Lib.hid hl
    clear hl
    have HVB := Lib.hid hvb; have HOWN := Lib.hid hown; have HOB := Lib.hid hob; have HMOD := Lib.hid hmod
    have hzr := hmod.size
    obtain ⟨oa, oc, rfl⟩ : ∃ a c, v = .slice a l.length c := by obtain ⟨_, _, _, h⟩ := hown; obtain ⟨oa, cap, h, _⟩ := h.isSlice; exact ⟨oa, cap, h⟩
    have hbr := blk_lt hvb
    have v0 : wr.cell? ⟨w4.heap.size + 1, 0, none⟩ = some (.slice oa l.length oc) := (blk_cell hvb 0).trans rfl
    have vf := blk_free hvb 0
    have o1 : wr.cell? ⟨w.heap.size, 1, none⟩ = some (.int .i64 id) := (blk_cell (((HBO.out.mod (Mod.of_grow (F := fun _ => False) HG46.out) (fun _ _ h => h)).2 |> fun h => blk_mod h hmod (by omega))) 1).trans rfl
    have hob1 : w.heap.size < wr.heap.size := by omega
    obtain ⟨a7, c7, hsl, -, -, hA⟩ := SlR.open (edgesMod HER.out hmod (fun b hb hh => by omega))
    simp only [Value.slice.injEq, true_and] at hsl
    obtain ⟨rfl, rfl⟩ := hsl
    have HA := Lib.hid hA
    clear hA hvb hown hob hmod
    by_cases hkl : k < G.edges.length
    · obtain ⟨ba, off, ra, rfl, hSa, hba, hRa, hca⟩ := HA.out k G.edges[k] (List.getElem?_eq_getElem hkl)
      obtain ⟨pva, hba', a0, a1, a2, a3, a4, hpa⟩ := hRa.at hba (Grow.rfl' wr) hca
      have HT := Lib.hid (show G.edges.take (k + 1) = G.edges.take k ++ [G.edges[k]] from List.take_succ_eq_append_getElem hkl)
      clear hca hRa hSa hba
      generalize G.edges[k] = y at *
      have HPA := Lib.hid hpa.cut
      obtain ⟨pb, pd, rfl⟩ := hpa.isSlice
      clear hpa
      have HGA := Lib.hid (show ∀ o1 o2, Grow wr ((wr.alloc o1).alloc o2) from fun o1 o2 => ((Grow.rfl' wr).allocd o1).allocd o2)
      obtain ⟨rows, r1, rlen, r2, r3⟩ := HOWN.out.rowLen
      have R1 := Lib.hid r1; have R2 := Lib.hid r2
      have R3 := Lib.hid (show ∀ o1 o2, OwnS ((wr.alloc o1).alloc o2) 91 5 (.slice oa l.length oc) l.length rows.flatten ob from fun o1 o2 => r3.grow (HGA.out o1 o2))
      have HVB2 := Lib.hid (show ∀ o1 o2, ((wr.alloc o1).alloc o2).heap[w4.heap.size + 1]? = some (.cells #[.slice oa l.length oc] 84 (0, 0)) from fun o1 o2 => ((HGA.out o1 o2).heapEq hbr).trans HVB.out)
      have HRD := Lib.hid (show Rd ((wr.alloc (.cells #[.int .i64 y.id, .string y.typ, .int .i64 y.from_, .int .i64 y.to_, .slice pb y.props.length pd] 91)).alloc (.cells #[.int .i64 y.id, .string y.typ, .int .i64 y.from_, .int .i64 y.to_, .slice pb y.props.length pd] 91)) 5 (.slice (some ⟨wr.heap.size + 1, 0, none⟩) 1 1) 1 [.int .i64 y.id, .string y.typ, .int .i64 y.from_, .int .i64 y.to_, .slice pb y.props.length pd] from by
        have h := Rd.lit (wr.alloc (.cells #[.int .i64 y.id, .string y.typ, .int .i64 y.from_, .int .i64 y.to_, .slice pb y.props.length pd] 91)) #[.int .i64 y.id, .string y.typ, .int .i64 y.from_, .int .i64 y.to_, .slice pb y.props.length pd] 91 5 1 rfl
        rw [World.size_alloc] at h
        exact h)
      clear r1 rlen r2 r3
      cases e1 : (y.from_ == id)
      · cases e2 : (y.to_ == id)
        · have HAT := Lib.hid (show atE y id = false by simp [atE, show ¬ y.from_ = id by simpa using e1, show ¬ y.to_ = id by simpa using e2])
          go_wp2
          go_roundg (G.edges.length - (k + 1))
          case measure => omega
          case rel =>
            have gA : Grow wr (wr.alloc (.cells #[.int .i64 y.id, .string y.typ, .int .i64 y.from_, .int .i64 y.to_, .slice pb y.props.length pd] 91)) := (Grow.rfl' wr).allocd _
            have hit := HIT.out
            refine ⟨k + 1, _, ob, by omega, rfl, by first | go_num | (unfold wrap64; refine congrArg _ ?_; omega), (gA.heapEq hbr).trans HVB.out, ?_, HOB.out, HMOD.out.step (Mod.of_grow gA)⟩
            rw [HT.out, List.filter_append, ← HLF.out, List.filter_cons, if_neg (by rw [HAT.out]; simp), List.filter_nil, List.append_nil]
            exact HOWN.out.keep (fun g hg => gA.heapEq (HOWN.out.lt g hg)) (fun z r _ hR => hR.mod (Mod.of_grow (F := fun _ => False) gA) (fun _ _ h => h))
        · have HAT := Lib.hid (show atE y id = true by simp [atE, show y.to_ = id by simpa using e2])
          go_wp2_with (at_builtin; go_must (refine wpList_append_S _ rfl (.tmp 72) (.tmp 74) 84 rfl 91 iE _ 5 64 Tryz.underlying84 hiE hzE0 hzE1 hzE2 rfl (by decide) (.slice oa l.length oc) l.length _ ob rfl (R3.out _ _) (.slice (some ⟨wr.heap.size + 1, 0, none⟩) 1 1) rfl 1 _ HRD.out (by intro u hu; simp only [List.mem_cons, List.not_mem_nil, or_false] at hu; rcases hu with rfl | rfl | rfl | rfl | rfl <;> rfl) (by have := HIT.out; unfold maxLen; omega) (by have := HIT.out; omega) ?_))
          intro v8 w8 ob8 k1 k2 k3
          try (intro _)
          obtain ⟨oa8, oc8, rfl, -, -⟩ := k1.isSlice
          have hs8 := k2.size
          have ho8 : ∀ g, ob8 = some g → w6.heap.size ≤ g := fun g hg => by
            rcases k3 with h | ⟨g', h, hge⟩
            · exact HOB.out g (h ▸ hg)
            · rw [h] at hg; cases hg; (try simp at hge); omega
          have hvb8 := (k2.block (w4.heap.size + 1) (by simp; omega) (fun hh => by have := HOB.out _ hh; omega)).trans (HVB2.out _ _)
          have HVB8 := Lib.hid hvb8
          have v8c : w8.cell? ⟨w4.heap.size + 1, 0, none⟩ = some (.slice oa l.length oc) := (blk_cell hvb8 0).trans rfl
          have v8f := blk_free hvb8 0
          have hb8 := blk_lt hvb8
          have HM8 := Lib.hid (show Mod (fun b => b = w4.heap.size + 1) w6 w8 from ((HMOD.out.allocd _).allocd _).step' k2 (fun x hx => .inr (HOB.out x hx)))
          have HF8 := Lib.hid (snocE (R' := fun b => w4.heap.size + 1 < b ∧ ob8 ≠ some b) R1.out R2.out (HGA.out _ _) k2 (fun b hb => hb.2) (fun b hb hlt => ⟨hb.1, fun hh => by
            rcases k3 with h | ⟨g', h, hge⟩
            · exact hb.2 (h ▸ hh)
            · rw [h] at hh; cases hh; (try simp at hge); omega⟩) (((HPA.out.grow (HGA.out _ _)).mod k2 (fun b hb hh => by have := HOB.out b hh; omega)).sub (fun b hb => ⟨hb.1.1, fun hh => by have := ho8 b hh; omega⟩)) k1)
          have HO8 := Lib.hid ho8
          clear k1 k2 k3 hvb8 ho8
          go_wp2_with fail
          go_roundg (G.edges.length - (k + 1))
          case measure => omega
          case rel =>
            have m9 : Mod (fun b => b = w4.heap.size + 1) w8 (w8.setCell ⟨w4.heap.size + 1, 0, none⟩ (.slice oa8 (l.length + 1) oc8)) := (Mod.rfl' (fun b => b = w4.heap.size + 1) w8).setd (p := ⟨w4.heap.size + 1, 0, none⟩) (.inl rfl) _
            have hit := HIT.out
            refine ⟨k + 1, _, ob8, by omega, rfl, by first | go_num | (unfold wrap64; refine congrArg _ ?_; omega), heap_setCell_same w8 _ 0 _ _ _ HVB8.out, ?_, HO8.out, HM8.out.step m9⟩
            rw [HT.out, List.filter_append, ← HLF.out, List.filter_cons, if_pos HAT.out, List.filter_nil]
            exact HF8.out.keep (fun g hg => m9.block g (HF8.out.lt g hg) (fun hh => by have := HO8.out g hg; omega)) (fun z r _ hR => hR.mod m9 (fun b hb hh => by have := hb.1; omega))
      · have HAT := Lib.hid (show atE y id = true by simp [atE, show y.from_ = id by simpa using e1])
        go_wp2_with (at_builtin; go_must (refine wpList_append_S _ rfl (.tmp 72) (.tmp 74) 84 rfl 91 iE _ 5 64 Tryz.underlying84 hiE hzE0 hzE1 hzE2 rfl (by decide) (.slice oa l.length oc) l.length _ ob rfl (R3.out _ _) (.slice (some ⟨wr.heap.size + 1, 0, none⟩) 1 1) rfl 1 _ HRD.out (by intro u hu; simp only [List.mem_cons, List.not_mem_nil, or_false] at hu; rcases hu with rfl | rfl | rfl | rfl | rfl <;> rfl) (by have := HIT.out; unfold maxLen; omega) (by have := HIT.out; omega) ?_))
        intro v8 w8 ob8 k1 k2 k3
        try (intro _)
        obtain ⟨oa8, oc8, rfl, -, -⟩ := k1.isSlice
        have hs8 := k2.size
        have ho8 : ∀ g, ob8 = some g → w6.heap.size ≤ g := fun g hg => by
          rcases k3 with h | ⟨g', h, hge⟩
          · exact HOB.out g (h ▸ hg)
          · rw [h] at hg; cases hg; (try simp at hge); omega
        have hvb8 := (k2.block (w4.heap.size + 1) (by simp; omega) (fun hh => by have := HOB.out _ hh; omega)).trans (HVB2.out _ _)
        have HVB8 := Lib.hid hvb8
        have v8c : w8.cell? ⟨w4.heap.size + 1, 0, none⟩ = some (.slice oa l.length oc) := (blk_cell hvb8 0).trans rfl
        have v8f := blk_free hvb8 0
        have hb8 := blk_lt hvb8
        have HM8 := Lib.hid (show Mod (fun b => b = w4.heap.size + 1) w6 w8 from ((HMOD.out.allocd _).allocd _).step' k2 (fun x hx => .inr (HOB.out x hx)))
        have HF8 := Lib.hid (snocE (R' := fun b => w4.heap.size + 1 < b ∧ ob8 ≠ some b) R1.out R2.out (HGA.out _ _) k2 (fun b hb => hb.2) (fun b hb hlt => ⟨hb.1, fun hh => by
          rcases k3 with h | ⟨g', h, hge⟩
          · exact hb.2 (h ▸ hh)
          · rw [h] at hh; cases hh; (try simp at hge); omega⟩) (((HPA.out.grow (HGA.out _ _)).mod k2 (fun b hb hh => by have := HOB.out b hh; omega)).sub (fun b hb => ⟨hb.1.1, fun hh => by have := ho8 b hh; omega⟩)) k1)
        have HO8 := Lib.hid ho8
        clear k1 k2 k3 hvb8 ho8
        go_wp2_with fail
        go_roundg (G.edges.length - (k + 1))
        case measure => omega
        case rel =>
          have m9 : Mod (fun b => b = w4.heap.size + 1) w8 (w8.setCell ⟨w4.heap.size + 1, 0, none⟩ (.slice oa8 (l.length + 1) oc8)) := (Mod.rfl' (fun b => b = w4.heap.size + 1) w8).setd (p := ⟨w4.heap.size + 1, 0, none⟩) (.inl rfl) _
          have hit := HIT.out
          refine ⟨k + 1, _, ob8, by omega, rfl, by first | go_num | (unfold wrap64; refine congrArg _ ?_; omega), heap_setCell_same w8 _ 0 _ _ _ HVB8.out, ?_, HO8.out, HM8.out.step m9⟩
          rw [HT.out, List.filter_append, ← HLF.out, List.filter_cons, if_pos HAT.out, List.filter_nil]
          exact HF8.out.keep (fun g hg => m9.block g (HF8.out.lt g hg) (fun hh => by have := HO8.out g hg; omega)) (fun z r _ hR => hR.mod m9 (fun b hb hh => by have := hb.1; omega))
    · have hke : k = G.edges.length := by omega
      have HKE := Lib.hid (show l = G.edges.filter fun y => atE y id by rw [HLF.out, List.take_of_length_le (by omega)])
      go_wp2
      go_ret
      have hgr : Grow w4 wr := HG46.out.modd HMOD.out (fun b hb => by omega)
      have hs4 := HG4.out.size
      refine ⟨_, rfl, ⟨w.heap.size + 1, (HBG.out.mod (Mod.of_grow (F := fun _ => False) hgr) (fun _ _ h => h)), .inr (.inr (.inr ⟨rfl, w4.heap.size, w4.heap.size + 1, x, .slice pa x.props.length pc, .slice oa l.length oc, HXM.out, HXI.out, ?_, ?_, ⟨(show w.heap.size ≤ w4.heap.size + 1 by omega), HVB.out⟩, ?_, rfl⟩))⟩, HG4.out.step hgr⟩
      · exact ⟨HNB.out.1, blk_mod HNB.out.2 HMOD.out (by omega)⟩
      · exact (HPV.out.grow hgr).sub (fun b hb => hb.1)
      · rw [← HKE.out]
        exact SlR.sub (HOWN.out.toSl (S := fun b => w.heap.size ≤ b) (fun g hg => by have := HOB.out g hg; omega)) (fun _ h => h) (fun z r _ hR => hR.sub (fun b hb => by have := hb.1; omega))

theorem undoBack (S : Nat → Prop) (A B : Nat) (lv mv : Value) (G : PGraph) (o : POp) (w : World) (hA : w.heap[A]? = some (.cells #[capU B, lv, mv] 74 (0, 0))) (h : GraphOk 101 S w B G) (hg : goodG G = true) (hm : mayG typesC o G = 0) :
    Calls Tryz.prog 41 #[capU A, o.args] w (BackRes B o G w) := by
  rcases may_kind hm with hk | hk | hk | hk | hk
  · exact undoBack1 S A B lv mv G o w hA h hg hm hk
  · exact undoBack2 S A B lv mv G o w hA h hg hm hk
  · exact undoBack3 S A B lv mv G o w hA h hg hm hk
  · exact undoBack4 S A B lv mv G o w hA h hg hm hk
  · exact undoBack5 S A B lv mv G o w hA h hg hm hk
end Go.Hg

namespace Go.Hg
open Go.RowKit Go.Proofs

structure PTrail where
  g : PGraph
  l : List (POp × PGraph)
  marks : List (ByteArray × Nat)
def opId (o : POp) (g : PGraph) : POp := if o.kind = 1 ∨ o.kind = 3 then { o with id := g.next } else o
def ChainT (l : List (POp × PGraph)) (G : PGraph) : Prop :=
  ∀ i o g, l[i]? = some (o, g) → goodG g = true ∧ mayG typesC o g = 0 ∧ doG o g = ((l[i + 1]?).map (·.2)).getD G
structure TInv (T : PTrail) : Prop where
  good : goodG T.g = true
  len : T.l.length ≤ 64
  mlen : T.marks.length ≤ 8
  mat : ∀ m ∈ T.marks, m.2 ≤ 64
  mnd : (T.marks.map (·.1)).Nodup
  chain : ChainT T.l T.g
def cutT (T : PTrail) (n : Nat) : PTrail := ⟨((T.l[n]?).map (·.2)).getD T.g, T.l.take n, T.marks⟩
theorem cutT_none {T : PTrail} {n : Nat} (h : T.l.length ≤ n) : cutT T n = T := by
  unfold cutT
  rw [List.getElem?_eq_none h, List.take_of_length_le h]
  rfl
theorem TInv.cut {T : PTrail} (h : TInv T) (n : Nat) : TInv (cutT T n) := by
  refine ⟨?_, Nat.le_trans (by unfold cutT; rw [List.length_take]; omega) h.len, h.mlen, h.mat, h.mnd, ?_⟩
  · unfold cutT
    cases hn : T.l[n]? with
    | none => exact h.good
    | some x => exact (h.chain n x.1 x.2 hn).1
  · intro i o g hi
    unfold cutT at hi ⊢
    rw [List.getElem?_take] at hi
    split at hi
    · rename_i hlt
      obtain ⟨a, b, c⟩ := h.chain i o g hi
      refine ⟨a, b, c.trans ?_⟩
      rw [List.getElem?_take]
      by_cases h2 : i + 1 < n
      · rw [if_pos h2]
        have : i < T.l.length := (List.getElem?_eq_some_iff.1 hi).1
        cases h3 : T.l[i + 1]? with
        | some x => rfl
        | none =>
          have h4 : T.l.length ≤ n := by have := List.getElem?_eq_none_iff.1 h3; omega
          rw [List.getElem?_eq_none h4]
          rfl
      · rw [if_neg h2]
        have : i + 1 = n := by omega
        rw [this]
        rfl
    · cases hi
theorem opId_kind (o : POp) (g : PGraph) : (opId o g).kind = o.kind := by unfold opId; split <;> rfl
theorem mayG_opId (c : PCat) (o : POp) (g : PGraph) : mayG c (opId o g) g = mayG c o g := by
  unfold opId
  split
  · rename_i h
    unfold mayG
    rcases h with h | h <;> simp [h]
  · rfl
theorem doG_opId (o : POp) (g : PGraph) : doG (opId o g) g = doG o g := by
  unfold opId
  split
  · rename_i h
    unfold Hg.doG
    rcases h with h | h <;> simp [h, addNodeG, addEdgeG]
  · rfl
theorem BackV.opId {K : Nat → Prop} {w : World} {B : Nat} {o : POp} {g : PGraph} {fv : Value} (h : BackV K w B o g fv) : BackV K w B (opId o g) g fv := by
  by_cases hk : o.kind = 1 ∨ o.kind = 3
  · obtain ⟨gb, h0, h⟩ := h
    rcases h with ⟨h1, nb, h2, h3⟩ | ⟨h1, _⟩ | ⟨h1, _⟩ | ⟨h1, _⟩
    · exact ⟨gb, h0, .inl ⟨by rw [opId_kind]; exact hk, nb, h2, h3⟩⟩
    · omega
    · omega
    · omega
  · unfold Hg.opId
    rw [if_neg hk]
    exact h

def RChg (K : Nat → Prop) (w : World) (B : Nat) (c : POp × PGraph) (r : List Value) : Prop := ∃ fv, r = c.1.cells ++ [fv] ∧ BackV K w B c.1 c.2 fv
def RMark (m : ByteArray × Nat) (r : List Value) : Prop := r = [.string m.1, .int .i64 m.2]
def TrailAt (S K : Nat → Prop) (ol om : Option Nat) (w : World) (A B : Nat) (T : PTrail) : Prop :=
  ∃ lv mv, w.heap[A]? = some (.cells #[capU B, lv, mv] 74 (0, 0)) ∧ OwnL w 78 11 (RChg K w B) lv T.l ol ∧ OwnL w 81 2 RMark mv T.marks om ∧
    GraphOk 101 S w B T.g ∧ (∀ b, S b → ¬ K b ∧ b ≠ A ∧ ol ≠ some b ∧ om ≠ some b ∧ b < w.heap.size) ∧ ¬ K A ∧ (∀ g, ol = some g → ¬ K g ∧ g ≠ A ∧ om ≠ some g) ∧ (∀ g, om = some g → ¬ K g ∧ g ≠ A) ∧ ∀ b, K b → b < w.heap.size
def TrailOk (P : Nat → Prop) (w : World) (A B : Nat) (T : PTrail) : Prop :=
  ∃ (S K : Nat → Prop) (ol om : Option Nat), TrailAt S K ol om w A B T ∧ P A ∧ (∀ b, S b → P b) ∧ (∀ b, K b → P b) ∧ (∀ g, ol = some g → P g) ∧ ∀ g, om = some g → P g
theorem TrailAt.keep {S K F : Nat → Prop} {ol om : Option Nat} {w w' : World} {A B : Nat} {T : PTrail} (h : TrailAt S K ol om w A B T) (m : Mod F w w') (hA : ¬ F A) (hS : ∀ b, S b → ¬ F b) (hK : ∀ b, K b → ¬ F b) (h1 : ∀ g, ol = some g → ¬ F g) (h2 : ∀ g, om = some g → ¬ F g) : TrailAt S K ol om w' A B T := by
  obtain ⟨lv, mv, q1, q2, q3, q4, q5, q6, q7, q8, q9⟩ := h
  refine ⟨lv, mv, blk_mod q1 m hA, q2.keep (fun g hg => m.block g (q2.lt g hg) (h1 g hg)) (fun x r _ hR => ?_), q3.keep (fun g hg => m.block g (q3.lt g hg) (h2 g hg)) (fun _ _ _ h => h), q4.keep m hS, fun b hb => ?_, q6, q7, q8, fun b hb => Nat.lt_of_lt_of_le (q9 b hb) m.size⟩
  · obtain ⟨fv, hr, hb⟩ := hR
    exact ⟨fv, hr, hb.mod m hK⟩
  · obtain ⟨a, b, c, d, e⟩ := q5 b hb
    exact ⟨a, b, c, d, Nat.lt_of_lt_of_le e m.size⟩
theorem TrailOk.keep {P F : Nat → Prop} {w w' : World} {A B : Nat} {T : PTrail} (h : TrailOk P w A B T) (m : Mod F w w') (hP : ∀ b, P b → ¬ F b) : TrailOk P w' A B T := by
  obtain ⟨S, K, ol, om, h0, h1, h2, h3, h4, h5⟩ := h
  exact ⟨S, K, ol, om, h0.keep m (hP _ h1) (fun b hb => hP _ (h2 b hb)) (fun b hb => hP _ (h3 b hb)) (fun g hg => hP _ (h4 g hg)) (fun g hg => hP _ (h5 g hg)), h1, h2, h3, h4, h5⟩
theorem TrailOk.grow {P : Nat → Prop} {w w' : World} {A B : Nat} {T : PTrail} (h : TrailOk P w A B T) (g : Grow w w') : TrailOk P w' A B T := h.keep (Mod.of_grow (F := fun _ => False) g) (fun _ _ h => h)
theorem TrailOk.sub {P P' : Nat → Prop} {w : World} {A B : Nat} {T : PTrail} (h : TrailOk P w A B T) (hP : ∀ b, P b → P' b) : TrailOk P' w A B T := by
  obtain ⟨S, K, ol, om, h0, h1, h2, h3, h4, h5⟩ := h
  exact ⟨S, K, ol, om, h0, hP _ h1, fun b hb => hP _ (h2 b hb), fun b hb => hP _ (h3 b hb), fun g hg => hP _ (h4 g hg), fun g hg => hP _ (h5 g hg)⟩
theorem TrailOk.cut {P : Nat → Prop} {w : World} {A B : Nat} {T : PTrail} (h : TrailOk P w A B T) : TrailOk (fun b => P b ∧ b < w.heap.size) w A B T := by
  obtain ⟨S, K, ol, om, h0, h1, h2, h3, h4, h5⟩ := h
  have h0' := h0
  obtain ⟨lv, mv, q1, q2, q3, q4, q5, q6, q7, q8, q9⟩ := h0
  exact ⟨S, K, ol, om, h0', ⟨h1, blk_lt q1⟩, fun b hb => ⟨h2 b hb, (q5 b hb).2.2.2.2⟩, fun b hb => ⟨h3 b hb, q9 b hb⟩, fun g hg => ⟨h4 g hg, q2.lt g hg⟩, fun g hg => ⟨h5 g hg, q3.lt g hg⟩⟩
theorem TrailOk.graph {P : Nat → Prop} {w : World} {A B : Nat} {T : PTrail} (h : TrailOk P w A B T) : GraphOk 101 P w B T.g := by
  obtain ⟨S, K, ol, om, ⟨lv, mv, q1, q2, q3, q4, _⟩, h1, h2, _⟩ := h
  exact q4.sub h2
theorem TrailAt.read {S K : Nat → Prop} {ol om : Option Nat} {w : World} {A B : Nat} {T : PTrail} (h : TrailAt S K ol om w A B T) :
    ∃ la lc ma mc, w.heap[A]? = some (.cells #[capU B, .slice la T.l.length lc, .slice ma T.marks.length mc] 74 (0, 0)) ∧ A < w.heap.size ∧ w.cell? ⟨A, 0, none⟩ = some (capU B) ∧ w.cell? ⟨A, 1, none⟩ = some (.slice la T.l.length lc) ∧ w.cell? ⟨A, 2, none⟩ = some (.slice ma T.marks.length mc) ∧
      OwnL w 78 11 (RChg K w B) (.slice la T.l.length lc) T.l ol ∧ OwnL w 81 2 RMark (.slice ma T.marks.length mc) T.marks om := by
  obtain ⟨lv, mv, q1, q2, q3, -⟩ := h
  obtain ⟨la, lc, rfl⟩ : ∃ a c, lv = .slice a T.l.length c := by obtain ⟨_, _, _, h⟩ := q2; obtain ⟨oa, cap, h, _⟩ := h.isSlice; exact ⟨oa, cap, h⟩
  obtain ⟨ma, mc, rfl⟩ : ∃ a c, mv = .slice a T.marks.length c := by obtain ⟨_, _, _, h⟩ := q3; obtain ⟨oa, cap, h, _⟩ := h.isSlice; exact ⟨oa, cap, h⟩
  exact ⟨la, lc, ma, mc, q1, blk_lt q1, (blk_cell q1 0).trans rfl, (blk_cell q1 1).trans rfl, (blk_cell q1 2).trans rfl, q2, q3⟩

set_option maxHeartbeats 400000 in
theorem undoNew (S : Nat → Prop) (B : Nat) (G : PGraph) (w : World) (h : GraphOk 101 S w B G) :
    Calls Tryz.prog 12 #[capU B] w fun e w' => ∃ A, e = .returned (capU A) ∧ TrailOk (fun b => S b ∨ w.heap.size ≤ b) w' A B ⟨G, [], []⟩ ∧ Grow w w' := by
  have HOK := Lib.hid (h.cut.grow ((Grow.rfl' w).allocd (.cells #[capU B, .slice none 0 0, .slice none 0 0] 74)))
  have HG := Lib.hid ((Grow.rfl' w).allocd (.cells #[capU B, .slice none 0 0, .slice none 0 0] 74))
  have HN := Lib.hid (heap_alloc_new w (.cells #[capU B, .slice none 0 0, .slice none 0 0] 74))
  clear h
  go_enter Tryz.func12, Tryz.ntmps12
  go_wp2
  go_ret
  refine ⟨w.heap.size, rfl, ⟨fun b => S b ∧ b < w.heap.size, fun _ => False, none, none, ⟨_, _, HN.out, OwnL.nil _ _ _ _, OwnL.nil _ _ _ _, HOK.out, fun b hb => ⟨id, by omega, by simp, by simp, by simp; omega⟩, id, by simp, by simp, fun b hb => hb.elim⟩, .inr (Nat.le_refl _), fun b hb => .inl hb.1, fun b hb => hb.elim, by simp, by simp⟩, HG.out⟩
set_option maxHeartbeats 400000 in
theorem undoNewNil (w : World) : Calls Tryz.prog 12 #[.pointer none] w fun e w' => e = .returned (capU w.heap.size) ∧ w' = w.alloc (.cells #[.pointer none, .slice none 0 0, .slice none 0 0] 74) := by
  go_enter Tryz.func12, Tryz.ntmps12
  go_wp2
  go_ret
  exact ⟨rfl, rfl⟩
set_option maxHeartbeats 400000 in
theorem undoNone0 (w : World) : Calls Tryz.prog 39 #[.pointer none] w fun e w' => e = .returned (.bool true) ∧ w = w' := by
  go_enter Tryz.func39, Tryz.ntmps39
  go_wp2
  go_ret
  exact ⟨rfl, rfl⟩
set_option maxHeartbeats 400000 in
theorem undoNone1 (A : Nat) (w : World) (h : w.cell? ⟨A, 0, none⟩ = some (.pointer none)) : Calls Tryz.prog 39 #[capU A] w fun e w' => e = .returned (.bool true) ∧ w = w' := by
  have hl := cell_lt h
  go_enter Tryz.func39, Tryz.ntmps39
  go_wp2
  go_ret
  exact ⟨rfl, rfl⟩
set_option maxHeartbeats 400000 in
theorem undoNone2 (A B : Nat) (w : World) (h : w.cell? ⟨A, 0, none⟩ = some (capU B)) : Calls Tryz.prog 39 #[capU A] w fun e w' => e = .returned (.bool false) ∧ w = w' := by
  have hl := cell_lt h
  go_enter Tryz.func39, Tryz.ntmps39
  go_wp2
  go_ret
  exact ⟨rfl, rfl⟩
set_option maxHeartbeats 400000 in
theorem undoGraph (A : Nat) (v : Value) (w : World) (h : w.cell? ⟨A, 0, none⟩ = some v) : Calls Tryz.prog 34 #[capU A] w fun e w' => e = .returned v ∧ w = w' := by
  have hl := cell_lt h
  go_enter Tryz.func34, Tryz.ntmps34
  go_wp2
  go_ret
  exact ⟨rfl, rfl⟩
set_option maxHeartbeats 400000 in
theorem undoGraphNil (w : World) : Calls Tryz.prog 34 #[.pointer none] w fun e w' => e = .returned (.pointer none) ∧ w = w' := by
  go_enter Tryz.func34, Tryz.ntmps34
  go_wp2
  go_ret
  exact ⟨rfl, rfl⟩
end Go.Hg

namespace Go.Hg
open Go.RowKit Go.Proofs

def IdsW (n : Nat) (w : World) (v : Value) (l : List Int) : Prop := ∃ ob, IdsO w v l ob ∧ ∀ q, ob = some q → n ≤ q
theorem IdsW.nil (n : Nat) (w : World) : IdsW n w (.slice none 0 0) [] := ⟨none, OwnS.nil w _ 1, by simp⟩
theorem IdsW.grow {n : Nat} {w w' : World} {v : Value} {l : List Int} (h : IdsW n w v l) (g : Grow w w') : IdsW n w' v l := by
  obtain ⟨ob, h1, h2⟩ := h
  exact ⟨ob, OwnS.grow h1 g, h2⟩
theorem IdsW.isSlice {n : Nat} {w : World} {v : Value} {l : List Int} (h : IdsW n w v l) : ∃ oa cap, v = .slice oa l.length cap ∧ l.length ≤ cap ∧ cap ≤ maxLen := by
  obtain ⟨ob, h1, _⟩ := h
  exact OwnS.isSlice h1
theorem IdsW.post {w w' : World} {v : Value} {l : List Int} (h : IdsW w.heap.size w' v l) (g : Grow w w') : IdsPost l w (.returned v) w' := by
  obtain ⟨ob, h1, h2⟩ := h
  exact ⟨v, ob, rfl, h1, h2, g⟩
theorem IdsPost.open {l : List Int} {w w' : World} {e : Ending} (h : IdsPost l w e w') : ∃ v, e = .returned v ∧ IdsW w.heap.size w' v l ∧ Grow w w' := by
  obtain ⟨v, ob, h0, h1, h2, h3⟩ := h
  exact ⟨v, h0, ⟨ob, h1, h2⟩, h3⟩
end Go.Hg

namespace Go.Hg
open Go.RowKit Go.Proofs

def OwnN {α : Type} (e : TypeId) (sz : Nat) (R : α → List Value → Prop) (n : Nat) (w : World) (v : Value) (l : List α) : Prop := ∃ ob, OwnL w e sz R v l ob ∧ ∀ q, ob = some q → n ≤ q
section
variable {α : Type} {e : TypeId} {sz : Nat} {R : α → List Value → Prop} {n : Nat} {w w' : World} {v : Value} {l : List α}
theorem OwnN.nil (n : Nat) (w : World) : OwnN e sz R n w (.slice none 0 0) [] := ⟨none, OwnL.nil w e sz R, by simp⟩
theorem OwnN.grow (h : OwnN e sz R n w v l) (g : Grow w w') : OwnN e sz R n w' v l := by
  obtain ⟨ob, h1, h2⟩ := h
  exact ⟨ob, h1.keep (fun q hq => g.heapEq (h1.lt q hq)) (fun _ _ _ h => h), h2⟩
theorem OwnN.mod {F : Nat → Prop} (h : OwnN e sz R n w v l) (g : Mod F w w') (hF : ∀ k, n ≤ k → ¬ F k) : OwnN e sz R n w' v l := by
  obtain ⟨ob, h1, h2⟩ := h
  exact ⟨ob, h1.keep (fun q hq => g.block q (h1.lt q hq) (hF q (h2 q hq))) (fun _ _ _ h => h), h2⟩
theorem OwnN.isSlice (h : OwnN e sz R n w v l) : ∃ oa cap, v = .slice oa l.length cap ∧ l.length ≤ cap ∧ cap ≤ maxLen := by
  obtain ⟨ob, ⟨rows, _, _, h1⟩, _⟩ := h
  exact OwnS.isSlice h1
theorem OwnN.imp {R' : α → List Value → Prop} (h : OwnN e sz R n w v l) (hR : ∀ x r, x ∈ l → R x r → R' x r) : OwnN e sz R' n w v l := by
  obtain ⟨ob, h1, h2⟩ := h
  exact ⟨ob, h1.keep (fun _ _ => rfl) hR, h2⟩
end
end Go.Hg

namespace Go.Hg
open Go.RowKit Go.Proofs

section
variable {P : Program} {ops : Array Oper} {Q : Exit → Act → World → Prop} {md : Region.Mode} {S : World → Prop}

def waitsOn (md : Region.Mode) (ops : Array Oper) (z i : Nat) : Bool := (ops[z]?).any fun o => o.after.any fun e => Region.binds md e && e.on == i
def wpAnyZ (P : Program) (md : Region.Mode) (ops : Array Oper) (Q : Exit → Act → World → Prop) (S : World → Prop) (z : Nat) : Nat → Array Bool → Act → World → Prop
  | 0, done, a, w => Region.ready md ops done = [] ∧ Q .normal a w
  | n + 1, done, a, w => (Region.ready md ops done = [] → Q .normal a w) ∧ ∀ i ∈ Region.ready md ops done, wpOp P ops Q i (fun a' w' => (i ≠ z → S w') ∧ wpAnyZ P md ops Q S z n (done.setIfInBounds i true) a' w') a w
theorem wpAnyZ.any {z : Nat} : ∀ {n : Nat} {done : Array Bool} {a : Act} {w : World}, wpAnyZ P md ops Q S z n done a w → wpAny P md ops Q n done a w
  | 0, _, _, _, h => h
  | _ + 1, _, _, _, h => ⟨h.1, fun i hi => wpOp_mono (fun _ _ h' => h'.2.any) (h.2 i hi)⟩
theorem ready_off {i : Nat} {done : Array Bool} (h : i ∈ Region.ready md ops done) {j : Nat} {oj : Oper} (hj : ops[j]? = some oj) (hr : j ∈ Region.ready md ops done) : ∀ e ∈ oj.after, Region.binds md e = true → e.on ≠ i := by
  obtain ⟨-, o2, ho2, hall⟩ := mem_ready.1 hr
  obtain rfl : oj = o2 := Option.some.inj (hj.symm.trans ho2)
  rintro e he hb rfl
  have h1 := hall e he hb
  have h0 := (mem_ready.1 h).1
  rcases Nat.lt_or_ge e.on done.size with h' | h'
  · simp [h'] at h0 h1; rw [h0] at h1; cases h1
  · simp [Array.getElem?_eq_none h'] at h1
theorem not_last {z i : Nat} (hz : waitsOn md ops z i = true) {done : Array Bool} (h : i ∈ Region.ready md ops done) : z ∉ Region.ready md ops done := by
  intro hr
  unfold waitsOn at hz
  cases ho : ops[z]? with
  | none => rw [ho] at hz; cases hz
  | some o =>
    rw [ho] at hz
    obtain ⟨e, he, h2⟩ := Array.any_eq_true'.1 hz
    rw [Bool.and_eq_true] at h2
    exact ready_off h ho hr e he h2.1 (by simpa using h2.2)
theorem wpAnyZ_front {z i : Nat} {oi : Oper} {v : Value} (hz : waitsOn md ops z i = true) (hi : ops[i]? = some oi) (hsel : ∀ (j : Nat) (o : Oper) cs b, ops[j]? = some o → o.op ≠ .select cs b)
    (hQ : ∀ c a w, Q (.panic c) (a.put oi.dst v) w → Q (.panic c) a w) (n : Nat) : ∀ (done : Array Bool) (a : Act) (w : World),
      (∀ j oj, ops[j]? = some oj → j ≠ i → done.getD j true = false → (∀ e ∈ oj.after, Region.binds md e = true → e.on ≠ i) → oi.apart ops oj = true) →
      i ∈ Region.ready md ops done → YieldsIf P ops S oi v a → S w → wpAnyZ P md ops Q S z n (done.setIfInBounds i true) (a.put oi.dst v) w → wpAnyZ P md ops Q S z (n + 1) done a w := by
  induction n with
  | zero =>
    intro done a w _ hr hy hS H
    refine ⟨fun h => absurd (h ▸ hr) (by simp), fun j hj => ?_⟩
    by_cases hji : j = i
    · subst hji; exact hy.wpOp hi hS ⟨fun _ => hS, H⟩
    · exact absurd (H.1 ▸ ready_mono hj hji) (by simp)
  | succ n ih =>
    intro done a w hfree hr hy hS H
    refine ⟨fun h => absurd (h ▸ hr) (by simp), fun j hj => ?_⟩
    by_cases hji : j = i
    · subst hji; exact hy.wpOp hi hS ⟨fun _ => hS, H⟩
    · have hjz : j ≠ z := fun e => not_last hz hr (e ▸ hj)
      obtain ⟨hun, oj, hoj, -⟩ := mem_ready.1 hj
      have h2 := wpOp_putIf hoj (hfree j oj hoj hji hun (ready_off hr hoj hj)) (fun cs b => hsel i oi cs b hi) (fun cs b => hsel j oj cs b hoj) hQ hy (H.2 j (ready_mono hj hji))
      refine wpOp_mono (fun a' w' h3 => ⟨h3.2.1, ih (done.setIfInBounds j true) a' w' (fun k ok hk hki hu hno => hfree k ok hk hki ?_ hno) (ready_mono hr (Ne.symm hji)) h3.1 (h3.2.1 hjz) ?_⟩) h2
      · by_cases hjk : j = k
        · subst hjk; exact hun
        · rwa [getD_set_ne true hjk] at hu
      · rw [Array.setIfInBounds_comm _ _ hji]
        exact h3.2.2
theorem wpAnyZ_take {z i : Nat} {oi : Oper} {v : Value} {n : Nat} {done : Array Bool} {a : Act} {w : World} (hz : waitsOn md ops z i = true) (hi : ops[i]? = some oi)
    (hs : Region.noSelect ops = true) (hf : Region.free md ops done i = true) (hr : (Region.ready md ops done).contains i = true)
    (hQ : ∀ c a w, Q (.panic c) (a.put oi.dst v) w → Q (.panic c) a w) (hy : YieldsIf P ops S oi v a) (hS : S w)
    (h : wpAnyZ P md ops Q S z n (done.setIfInBounds i true) (a.put oi.dst v) w) : wpAnyZ P md ops Q S z (n + 1) done a w :=
  wpAnyZ_front hz hi (Region.noSelect_spec hs) hQ n done a w (Region.free_spec hi hf) (by simpa using hr) hy hS h
def AllZ (P : Program) (md : Region.Mode) (ops : Array Oper) (Q : Exit → Act → World → Prop) (S : World → Prop) (z n : Nat) (done : Array Bool) (a : Act) (w : World) (rs : List Nat) : Prop :=
  ∀ i ∈ rs, wpOp P ops Q i (fun a' w' => (i ≠ z → S w') ∧ wpAnyZ P md ops Q S z n (done.setIfInBounds i true) a' w') a w
theorem AllZ.nil {z n : Nat} {done : Array Bool} {a : Act} {w : World} : AllZ P md ops Q S z n done a w [] := fun _ h => by cases h
theorem AllZ.cons {z n : Nat} {done : Array Bool} {a : Act} {w : World} {i : Nat} {o : Oper} {rs : List Nat} (ho : ops[i]? = some o)
    (h : ∀ K' : Act → World → Prop, Shut (∀ a w, S w → (S w → wpAnyZ P md ops Q S z n (done.setIfInBounds i true) a w) → K' a w) → if Region.wanted o (yielded ops a.tmps) = true then Oper.wp P o a w K' Q else K' (a.put o.dst undef) w)
    (hs : AllZ P md ops Q S z n done a w rs) : AllZ P md ops Q S z n done a w (i :: rs) := fun j hj => by
  rcases List.mem_cons.1 hj with rfl | hj
  · exact wpOp_step ho (fun K' hK => h K' (fun a w hS hW => hK a w ⟨fun _ => hS, hW hS⟩))
  · exact hs j hj
theorem AllZ.last {z n : Nat} {done : Array Bool} {a : Act} {w : World} {o : Oper} (ho : ops[z]? = some o)
    (h : ∀ K' : Act → World → Prop, Shut (∀ a w, wpAnyZ P md ops Q S z n (done.setIfInBounds z true) a w → K' a w) → if Region.wanted o (yielded ops a.tmps) = true then Oper.wp P o a w K' Q else K' (a.put o.dst undef) w) :
    AllZ P md ops Q S z n done a w [z] := fun j hj => by
  obtain rfl : j = z := by simpa using hj
  exact wpOp_step ho (fun K' hK => h K' (fun a w hW => hK a w ⟨fun e => absurd rfl e, hW⟩))
theorem wpAnyZ_ready {rs : List Nat} {z n : Nat} {done : Array Bool} {a : Act} {w : World} (hr : Region.ready md ops done = rs) (hne : rs ≠ []) (h : AllZ P md ops Q S z n done a w rs) : wpAnyZ P md ops Q S z (n + 1) done a w :=
  ⟨fun h0 => absurd (hr ▸ h0) hne, hr ▸ h⟩
theorem wpAnyZ_done {z : Nat} {done : Array Bool} {a : Act} {w : World} (hr : Region.ready md ops done = []) (h : Q .normal a w) : ∀ n, wpAnyZ P md ops Q S z n done a w
  | 0 => ⟨hr, h⟩
  | _ + 1 => ⟨fun _ => h, by rw [hr]; simp⟩
theorem wp_region_Z {id z : Nat} {a : Act} {w : World} (hm : P.follows .mixedOrders = true) (hS : S w.drew)
    (h : S w.drew → wpAnyZ P .any ops Q S z ops.size (Array.replicate ops.size false) a w.drew) : (Code.region id ops true).wp P Q a w :=
  wp_region_any hm (h hS).any
theorem exec_takeS {o : Oper} {a : Act} {w : World} (s hi : Operand) (t e : TypeId) (hop : o.op = Op.slice t s none (some hi) none) (ht : P.underlying t = some (.slice e)) (sz : Nat) (hsz : ∀ w, (sizeOf e).run P w = .ok sz w)
    (av : Option Addr) (n cap k : Nat) (hs : a.eval s = .slice av n cap) (hhi : a.eval hi = .int .i64 k) (hk : k ≤ cap) : (execOp a.eval o).run P w = .ok (.value (.slice av k cap)) w := by
  have he : P.elem t = e := by unfold Program.elem; rw [ht]
  have ht' : P.underlying t = some (.slice (P.elem t)) := by rw [he]; exact ht
  have hr : (Instr.sliceAt t (.slice av n cap) none (some (.int .i64 (k : Int))) none).run P w = .ok (.slice av k cap) w := by
    rw [run_sliceAt_slice _ _ _ _ _ _ ht', run_slice_h _ _ _ _ _ ht' _ _ (by omega) (by omega), he, hsz]
    have e : Go.sliced av 0 (k : Int).toNat cap sz = .slice av k cap := by
      unfold Go.sliced
      by_cases hc : cap = 0
      · rw [if_pos hc]; simp
      · rw [if_neg hc]
        cases av with
        | none => simp
        | some x => cases x; simp [Addr.add]
    simp only [Result.andThen, e]
  simp [execOp, hop, hs, hhi, hr, Result.andThen]
end
end Go.Hg

namespace Go.Hg
open Go.RowKit Go.Proofs

theorem sizeChg : ∀ w, (sizeOf 78).run Tryz.prog w = .ok 11 w := by intro w; kernel_rfl
theorem OwnL.take {α : Type} {w : World} {E : TypeId} {sz n cap g : Nat} {a : Option Addr} {R : α → List Value → Prop} {l : List α} (h : OwnL w E sz R (.slice a n cap) l (some g)) (k : Nat) (hk : k ≤ l.length) : OwnL w E sz R (.slice a k cap) (l.take k) (some g) := by
  obtain ⟨rows, h1, h2, h3, h4⟩ := h
  rcases h4 with ⟨_, _, _, h, _⟩ | ⟨g', cap', cur, hv, hg, hb, k1, k2, k3, k4⟩
  · cases h
  cases hg
  simp only [Value.slice.injEq] at hv
  obtain ⟨rfl, rfl, rfl⟩ := hv
  have hrl : ∀ r ∈ rows.take k, r.length = sz := fun r hr => by
    obtain ⟨i, hi⟩ := List.getElem?_of_mem (List.mem_of_mem_take hr)
    have hil := (List.getElem?_eq_some_iff.1 hi).1
    exact (h2 i _ r (List.getElem?_eq_getElem (by omega)) hi).2
  have e : (rows.take k).flatten = rows.flatten.take (k * sz) := by
    have hh : rows.flatten = (rows.take k).flatten ++ (rows.drop k).flatten := by rw [← List.flatten_append, List.take_append_drop]
    have hl : (rows.take k).flatten.length = k * sz := by rw [flatten_len _ sz hrl, List.length_take, h1, Nat.min_eq_left hk]
    rw [hh, ← hl, List.take_left]
  have hlen : (l.take k).length = k := by rw [List.length_take]; omega
  refine ⟨rows.take k, by rw [List.length_take, List.length_take, h1], fun i x r hx hr => ?_, ?_⟩
  · rw [List.getElem?_take] at hx hr
    split at hx
    · rename_i hlt
      rw [if_pos hlt] at hr
      exact h2 i x r hx hr
    · cases hx
  · rw [hlen, e]
    refine ⟨by rw [List.length_take, h3, Nat.min_eq_left (Nat.mul_le_mul_right _ hk)], .inr ⟨g, cap, cur, rfl, rfl, hb, by omega, k2, k3, ?_⟩⟩
    rw [← k4, List.take_take, Nat.min_eq_left (Nat.mul_le_mul_right _ hk)]

set_option maxRecDepth 100000 in
set_option maxHeartbeats 4000000 in
theorem undoCut (S K : Nat → Prop) (ol om : Option Nat) (A B : Nat) (T : PTrail) (n : Nat) (w : World) (h : TrailAt S K ol om w A B T) (hT : TInv T) (hn : n ≤ 64) :
    Calls Tryz.prog 45 #[capU A, .int .i64 n] w fun e w' => e = .returned (.tuple #[]) ∧ ∃ S' : Nat → Prop, TrailAt S' K ol om w' A B (cutT T n) ∧ (∀ b, S' b → S b ∨ w.heap.size ≤ b) ∧ Mod (fun b => S b ∨ b = A) w w' := by
  have HT := Lib.hid hT; have HAT := Lib.hid h
  have hlen := hT.len
  clear h hT
  go_enter Tryz.func45, Tryz.ntmps45
  go_wp2
  go_loopg [] T.l.length (fun gg wr => ∃ (j : Nat) (S' : Nat → Prop), j ≤ T.l.length ∧ (j = T.l.length ∨ n ≤ j) ∧ j = gg ∧ TrailAt S' K ol om wr A B (cutT T j) ∧ (∀ b, S' b → S b ∨ w.heap.size ≤ b) ∧ Mod (fun b => S b ∨ b = A) w wr)
  case atStart => exact ⟨T.l.length, S, Nat.le_refl _, .inl rfl, rfl, by rw [cutT_none (Nat.le_refl _)]; exact HAT.out, fun b hb => .inl hb, Mod.rfl' _ _⟩
  case round =>
    obtain ⟨j, S', hj, hjn, rfl, hat, hS', hmod⟩ := hrel
    have HATR := Lib.hid hat; have HS' := Lib.hid hS'; have HMOD := Lib.hid hmod
    have hln : (cutT T j).l.length = j := by unfold cutT; rw [List.length_take]; omega
    obtain ⟨la, lc, ma, mc, hA, hAl, c0, c1, c2, q2, q3⟩ := hat.read
    rw [hln] at hA c1 q2
    by_cases hjn2 : n < j
    · obtain ⟨i, rfl⟩ : ∃ i, j = i + 1 := ⟨j - 1, by omega⟩
      have hil : i < T.l.length := by omega
      obtain ⟨⟨o, g⟩, hl⟩ : ∃ x, T.l[i]? = some x := ⟨_, List.getElem?_eq_getElem hil⟩
      obtain ⟨hgood, hmay, hdo⟩ := HT.out.chain i o g hl
      have hl2 : (cutT T (i + 1)).l[i]? = some (o, g) := by unfold cutT; rw [List.getElem?_take, if_pos (by omega)]; exact hl
      obtain ⟨g0, rfl⟩ : ∃ g0, ol = some g0 := by
        obtain ⟨_, _, _, h⟩ := q2
        rcases h.2 with ⟨_, _, h, _⟩ | ⟨g0, _, _, _, h, _⟩
        · omega
        · exact ⟨g0, h⟩
      have hla : la = some ⟨g0, 0, none⟩ := by
        obtain ⟨_, _, _, h⟩ := q2
        rcases h.2 with ⟨_, _, _, h, _⟩ | ⟨g1, _, _, h, h1, _⟩
        · cases h
        · simp only [Value.slice.injEq] at h; cases h1; exact h.1
      subst hla
      obtain ⟨r, ⟨fv, rfl, hbv⟩, -, hcell⟩ := q2.row hl2
      have hgl := q2.lt g0 rfl
      have hd : Grow wr wr.drew := (Grow.rfl' wr).drewd
      have hatd : TrailAt S' K (some g0) om wr.drew A B (cutT T (i + 1)) := hat.keep (Mod.of_grow (F := fun _ => False) hd) (fun h => h) (fun _ _ h => h) (fun _ _ h => h) (fun _ _ h => h) (fun _ _ h => h)
      have hokd : GraphOk 101 S' wr.drew B (doG o g) := by
        rw [hdo]
        obtain ⟨_, _, _, _, _, h, _⟩ := hatd
        exact h
      obtain ⟨f, caps, rfl, hcf, hcall⟩ := backCall S' K B o g fv wr.drew (hbv.mod (Mod.of_grow (F := fun _ => False) hd) (fun _ _ h => h)) hokd hgood hmay
      have cf : wr.cell? ⟨g0, i * 11 + 10, none⟩ = some (.func (.func f) #[] caps) := by
        have h := hcell 10 (.func (.func f) #[] caps) rfl
        rwa [Nat.zero_add] at h
      obtain ⟨_, _, _, _, _, _, d5, d6, d7, d8, d9⟩ := hat
      have D5 := Lib.hid d5; have D6 := Lib.hid d6; have D7 := Lib.hid d7; have D8 := Lib.hid d8; have D9 := Lib.hid d9
      have HCALL := Lib.hid hcall; have HATD := Lib.hid hatd; have HL2 := Lib.hid hl2; have HL := Lib.hid hl; have HDO := Lib.hid hdo; have Q2 := Lib.hid q2; have Q3 := Lib.hid q3; have HAB := Lib.hid hA
      have HSK := Lib.hid (show ∀ w', Mod S' wr.drew w' → w'.cell? ⟨A, 1, none⟩ = some (.slice (some ⟨g0, 0, none⟩) (i + 1) lc) ∧ w'.cell? ⟨g0, i * 11 + 10, none⟩ = some (.func (.func f) #[] caps) from fun w' m =>
        ⟨by rw [World.cell?_of_block (w := wr.drew) (m.block A (Nat.lt_of_lt_of_le hAl hd.size) (fun hh => (d5 A hh).2.1 rfl))]; exact c1,
         by rw [World.cell?_of_block (w := wr.drew) (m.block g0 (Nat.lt_of_lt_of_le hgl hd.size) (fun hh => (d5 g0 hh).2.2.1 rfl))]; exact cf⟩)
      clear hcall hatd hokd hl2 hl hdo hgood hmay hbv hcell d5 d6 d7 d8 d9 hS' hmod q2 q3 hA hd
      have hw1 : IntKind.i64.wrap (i : Int) = (i : Int) := by rw [IntKind.wrap_i64]; omega
      have hw4 : (0 : Int) ≤ (i : Int) := by omega
      have hw5 : (i : Int) < (i : Int) + 1 := by omega
      have hw6 : (i : Int) ≤ (i : Int) + 1 := by omega
      have hw7 : IntKind.i64.wrap ((i : Int) + 1) = (i : Int) + 1 := by rw [IntKind.wrap_i64]; omega
      go_wp2
      go_region_held3 (fun w' => w'.cell? ⟨A, 1, none⟩ = some (.slice (some ⟨g0, 0, none⟩) (i + 1) lc) ∧ w'.cell? ⟨g0, i * 11 + 10, none⟩ = some (.func (.func f) #[] caps)) (first | exact ⟨c1, cf⟩ | exact HSK.out _ hm2) (first | (refine HCALL.out.mono ?_; rintro e w2 ⟨rfl, hok2, hm2⟩))
      have e1 := (HSK.out _ hm2).1
      have HOK2 := Lib.hid hok2.cut; have HM2 := Lib.hid hm2
      have HB2 := Lib.hid (show w2.heap[A]? = some (.cells #[capU B, .slice (some ⟨g0, 0, none⟩) (i + 1) lc, .slice ma (cutT T (i + 1)).marks.length mc] 74 (0, 0)) from (hm2.block A hAl (fun hh => (D5.out A hh).2.1 rfl)).trans HAB.out)
      have hA2 := blk_lt HB2.out
      have hf2 : w2.frozen? ⟨A, 1, none⟩ = false := blk_free HB2.out 1
      have hlc : i + 1 ≤ lc := by obtain ⟨_, _, _, h⟩ := Q2.out; obtain ⟨_, _, h1, h2, _⟩ := h.isSlice; simp only [Value.slice.injEq] at h1; omega
      clear hok2 hm2 c0 c1 c2 cf
      rename_i hold
      clear hold
      go_wp2
      refine wp_region_noPanic ?_
      refine wp_region_Z (S := fun w' => w'.cell? ⟨A, 1, none⟩ = some (.slice (some ⟨g0, 0, none⟩) (i + 1) lc)) (z := 14) (by kernel_rfl) ?_ (fun hHeld => ?_)
      · exact e1
      refine' wpAnyZ_take (i := 0) (oi := ?o1) (v := _) (by kernel_rfl) (by simp only [List.getElem?_toArray, List.getElem?_cons_zero]; rfl) (by kernel_rfl) (by kernel_rfl) (by kernel_rfl) (fun _ _ _ h => h) (Or.inl ⟨by rfl, ?y1⟩) (by assumption) ?r1
      case y1 =>
        intro wS hSw
        try dsimp only at hSw
        go_simp
        all_goals with_reducible rfl
      simp only [Act.put, List.setIfInBounds_toArray, List.set_cons_zero, List.set_cons_succ]
      refine' wpAnyZ_take (i := 1) (oi := ?o2) (v := _) (by kernel_rfl) (by simp only [List.getElem?_toArray, List.getElem?_cons_succ, List.getElem?_cons_zero]; rfl) (by kernel_rfl) (by kernel_rfl) (by kernel_rfl) (fun _ _ _ h => h) (Or.inl ⟨by rfl, ?y2⟩) (by assumption) ?r2
      case y2 =>
        intro wS hSw
        try dsimp only at hSw
        go_simp
        all_goals with_reducible rfl
      simp only [Act.put, List.setIfInBounds_toArray, List.set_cons_zero, List.set_cons_succ]
      refine' wpAnyZ_take (i := 2) (oi := ?o3) (v := _) (by kernel_rfl) (by simp only [List.getElem?_toArray, List.getElem?_cons_succ, List.getElem?_cons_zero]; rfl) (by kernel_rfl) (by kernel_rfl) (by kernel_rfl) (fun _ _ _ h => h) (Or.inl ⟨by rfl, ?y3⟩) (by assumption) ?r3
      case y3 =>
        intro wS hSw
        try dsimp only at hSw
        go_simp
        all_goals with_reducible rfl
      simp only [Act.put, List.setIfInBounds_toArray, List.set_cons_zero, List.set_cons_succ]
      refine' wpAnyZ_take (i := 3) (oi := ?o4) (v := _) (by kernel_rfl) (by simp only [List.getElem?_toArray, List.getElem?_cons_succ, List.getElem?_cons_zero]; rfl) (by kernel_rfl) (by kernel_rfl) (by kernel_rfl) (fun _ _ _ h => h) (Or.inl ⟨by rfl, ?y4⟩) (by assumption) ?r4
      case y4 =>
        intro wS hSw
        try dsimp only at hSw
        go_simp
        all_goals with_reducible rfl
      simp only [Act.put, List.setIfInBounds_toArray, List.set_cons_zero, List.set_cons_succ]
      refine' wpAnyZ_take (i := 4) (oi := ?o5) (v := _) (by kernel_rfl) (by simp only [List.getElem?_toArray, List.getElem?_cons_succ, List.getElem?_cons_zero]; rfl) (by kernel_rfl) (by kernel_rfl) (by kernel_rfl) (fun _ _ _ h => h) (Or.inl ⟨by rfl, ?y5⟩) (by assumption) ?r5
      case y5 =>
        intro wS hSw
        try dsimp only at hSw
        go_simp
        all_goals with_reducible rfl
      simp only [Act.put, List.setIfInBounds_toArray, List.set_cons_zero, List.set_cons_succ]
      refine' wpAnyZ_take (i := 5) (oi := ?o6) (v := _) (by kernel_rfl) (by simp only [List.getElem?_toArray, List.getElem?_cons_succ, List.getElem?_cons_zero]; rfl) (by kernel_rfl) (by kernel_rfl) (by kernel_rfl) (fun _ _ _ h => h) (Or.inl ⟨by rfl, ?y6⟩) (by assumption) ?r6
      case y6 =>
        intro wS hSw
        try dsimp only at hSw
        go_simp
        all_goals with_reducible rfl
      simp only [Act.put, List.setIfInBounds_toArray, List.set_cons_zero, List.set_cons_succ]
      refine' wpAnyZ_take (i := 6) (oi := ?o7) (v := _) (by kernel_rfl) (by simp only [List.getElem?_toArray, List.getElem?_cons_succ, List.getElem?_cons_zero]; rfl) (by kernel_rfl) (by kernel_rfl) (by kernel_rfl) (fun _ _ _ h => h) (Or.inl ⟨by rfl, ?y7⟩) (by assumption) ?r7
      case y7 =>
        intro wS hSw
        try dsimp only at hSw
        go_simp
        all_goals with_reducible rfl
      simp only [Act.put, List.setIfInBounds_toArray, List.set_cons_zero, List.set_cons_succ]
      refine' wpAnyZ_take (i := 7) (oi := ?o8) (v := _) (by kernel_rfl) (by simp only [List.getElem?_toArray, List.getElem?_cons_succ, List.getElem?_cons_zero]; rfl) (by kernel_rfl) (by kernel_rfl) (by kernel_rfl) (fun _ _ _ h => h) (Or.inl ⟨by rfl, ?y8⟩) (by assumption) ?r8
      case y8 =>
        intro wS hSw
        try dsimp only at hSw
        go_simp
        all_goals with_reducible rfl
      simp only [Act.put, List.setIfInBounds_toArray, List.set_cons_zero, List.set_cons_succ]
      refine' wpAnyZ_take (i := 8) (oi := ?o9) (v := _) (by kernel_rfl) (by simp only [List.getElem?_toArray, List.getElem?_cons_succ, List.getElem?_cons_zero]; rfl) (by kernel_rfl) (by kernel_rfl) (by kernel_rfl) (fun _ _ _ h => h) (Or.inl ⟨by rfl, ?y9⟩) (by assumption) ?r9
      case y9 =>
        intro wS hSw
        try dsimp only at hSw
        go_simp
        all_goals with_reducible rfl
      simp only [Act.put, List.setIfInBounds_toArray, List.set_cons_zero, List.set_cons_succ]
      refine' wpAnyZ_take (i := 9) (oi := ?o10) (v := _) (by kernel_rfl) (by simp only [List.getElem?_toArray, List.getElem?_cons_succ, List.getElem?_cons_zero]; rfl) (by kernel_rfl) (by kernel_rfl) (by kernel_rfl) (fun _ _ _ h => h) (Or.inl ⟨by rfl, ?y10⟩) (by assumption) ?r10
      case y10 =>
        intro wS hSw
        try dsimp only at hSw
        go_simp
        all_goals with_reducible rfl
      simp only [Act.put, List.setIfInBounds_toArray, List.set_cons_zero, List.set_cons_succ]
      refine' wpAnyZ_take (i := 10) (oi := ?o11) (v := _) (by kernel_rfl) (by simp only [List.getElem?_toArray, List.getElem?_cons_succ, List.getElem?_cons_zero]; rfl) (by kernel_rfl) (by kernel_rfl) (by kernel_rfl) (fun _ _ _ h => h) (Or.inl ⟨by rfl, ?y11⟩) (by assumption) ?r11
      case y11 =>
        intro wS hSw
        try dsimp only at hSw
        go_simp
        all_goals with_reducible rfl
      simp only [Act.put, List.setIfInBounds_toArray, List.set_cons_zero, List.set_cons_succ]
      refine' wpAnyZ_take (i := 11) (oi := ?o12) (v := .slice (some ⟨g0, 0, none⟩) i lc) (by kernel_rfl) (by simp only [List.getElem?_toArray, List.getElem?_cons_succ, List.getElem?_cons_zero]; rfl) (by kernel_rfl) (by kernel_rfl) (by kernel_rfl) (fun _ _ _ h => h) (Or.inl ⟨by rfl, fun wS hSw => exec_takeS (.tmp 29) (.tmp 35) 71 78 (by rfl) Tryz.underlying71 11 sizeChg (some ⟨g0, 0, none⟩) (i + 1) lc i (by rfl) (by rfl) (by omega)⟩) (by assumption) ?r12
      simp only [Act.put, List.setIfInBounds_toArray, List.set_cons_zero, List.set_cons_succ]
      refine wpAnyZ_ready (rs := [12]) (by kernel_rfl) (by simp) ?_
      refine' AllZ.cons (o := ?o13) (by simp only [List.getElem?_toArray, List.getElem?_cons_succ, List.getElem?_cons_zero]; rfl) (fun K hK => ?s13) ?m13
      case m13 => exact AllZ.nil
      go_simp
      refine hK.out _ _ ?_ (fun hHeld => ?_)
      · exact e1
      clear hK K
      try simp only [Act.put, List.setIfInBounds_toArray, List.set_cons_zero, List.set_cons_succ]
      refine wpAnyZ_ready (rs := [13]) (by kernel_rfl) (by simp) ?_
      refine' AllZ.cons (o := ?o14) (by simp only [List.getElem?_toArray, List.getElem?_cons_succ, List.getElem?_cons_zero]; rfl) (fun K hK => ?s14) ?m14
      case m14 => exact AllZ.nil
      go_simp
      refine hK.out _ _ ?_ (fun hHeld => ?_)
      · exact e1
      clear hK K
      try simp only [Act.put, List.setIfInBounds_toArray, List.set_cons_zero, List.set_cons_succ]
      refine wpAnyZ_ready (rs := [14]) (by kernel_rfl) (by simp) ?_
      refine' AllZ.last (o := ?o15) (by simp only [List.getElem?_toArray, List.getElem?_cons_succ, List.getElem?_cons_zero]; rfl) (fun K hK => ?s15)
      go_simp
      refine hK.out _ _ ?_
      clear hK K
      try simp only [Act.put, List.setIfInBounds_toArray, List.set_cons_zero, List.set_cons_succ]
      refine wpAnyZ_done (by kernel_rfl) ?_ _
      refine NoPanic.normal ?_
      go_wp2
      go_roundg i
      case measure => omega
      case rel =>
        have m23 : Mod (fun b => b = A) w2 (w2.drew.setCell ⟨A, 1, none⟩ (.slice (some ⟨g0, 0, none⟩) i lc)) := ((Mod.rfl' (fun b => b = A) w2).drewd).setd (p := ⟨A, 1, none⟩) (.inl rfl) _
        have m : Mod (fun b => S' b ∨ b = A) wr (w2.drew.setCell ⟨A, 1, none⟩ (.slice (some ⟨g0, 0, none⟩) i lc)) := ((Mod.of_grow ((Grow.rfl' wr).drewd)).step (HM2.out.mono (fun b hb => .inl hb))).step (m23.mono (fun b hb => .inr hb))
        have hsw := HMOD.out.size
        have hs2 : wr.heap.size ≤ w2.heap.size := HM2.out.size
        have hg0 := Q2.out.lt g0 rfl
        have hgi : (cutT T i).g = g := by unfold cutT; rw [HL.out]; rfl
        refine ⟨i, fun b => (S' b ∨ wr.heap.size ≤ b) ∧ b < w2.heap.size, by omega, .inr (by omega), rfl, ⟨_, _, heap_setCell_same w2.drew A 1 _ _ _ HB2.out, ?_, ?_, ?_, ?_, D6.out, D7.out, D8.out, fun b hb => Nat.lt_of_lt_of_le (D9.out b hb) m.size⟩, ?_, ?_⟩
        · have h1 := OwnL.take (Q2.out.keep (R' := RChg K (w2.drew.setCell ⟨A, 1, none⟩ (.slice (some ⟨g0, 0, none⟩) i lc)) B) (fun g' hg' => m.block g' (Q2.out.lt g' hg') (fun hh => hh.elim (fun h => (D5.out g' h).2.2.1 hg') (fun h => (D7.out g' hg').2.1 h))) (fun x r _ hR => by
            obtain ⟨fv, hr, hb⟩ := hR
            exact ⟨fv, hr, hb.mod m (fun b hb hh => hh.elim (fun h => (D5.out b h).1 hb) (fun h => D6.out (h ▸ hb)))⟩)) i (by unfold cutT; rw [List.length_take]; omega)
          have h2 : (cutT T (i + 1)).l.take i = (cutT T i).l := by unfold cutT; rw [List.take_take, Nat.min_eq_left (by omega)]
          rw [h2] at h1
          exact h1
        · exact Q3.out.keep (fun g' hg' => m.block g' (Q3.out.lt g' hg') (fun hh => hh.elim (fun h => (D5.out g' h).2.2.2.1 hg') (fun h => (D8.out g' hg').2 h))) (fun _ _ _ h => h)
        · rw [hgi]
          exact HOK2.out.keep m23 (fun b hb hh => by subst hh; exact hb.1.elim (fun h => (D5.out _ h).2.1 rfl) (fun h => by have : wr.heap.size ≤ _ := h; omega))
        · rintro b ⟨hb | hb, hlt⟩
          · obtain ⟨p1, p2, p3, p4, p5⟩ := D5.out b hb
            exact ⟨p1, p2, p3, p4, Nat.lt_of_lt_of_le hlt m23.size⟩
          · exact ⟨fun h => by have := D9.out b h; omega, by omega, fun h => by cases h; omega, fun h => by have := Q3.out.lt b h; omega, Nat.lt_of_lt_of_le hlt m23.size⟩
        · rintro b ⟨hb | hb, -⟩
          · exact HS'.out b hb
          · exact .inr (by omega)
        · exact HMOD.out.step' m (fun x hx => hx.elim (fun h => (HS'.out x h).imp (fun h => .inl h) id) (fun h => .inl (.inr h)))
    · have hjn3 : n = j ∨ j = T.l.length := by omega
      have hc : cutT T j = cutT T n := by
        rcases hjn3 with h | h
        · rw [h]
        · rw [h, cutT_none (Nat.le_refl _), cutT_none (by omega)]
      have HC := Lib.hid hc
      clear hc hat hS' hmod
      go_wp2
      go_end0
      exact ⟨rfl, S', by rw [← HC.out]; exact HATR.out, HS'.out, HMOD.out⟩
end Go.Hg

namespace Go.Hg
open Go.RowKit Go.Proofs

theorem TrailAt.setM {S K : Nat → Prop} {ol om om' : Option Nat} {w : World} {A B : Nat} {T : PTrail} {mv' : Value} {m' : List (ByteArray × Nat)} (h : TrailAt S K ol om w A B T) (hm : OwnL w 81 2 RMark mv' m' om') (h1 : ∀ g, om' = some g → ¬ K g ∧ g ≠ A ∧ ¬ S g ∧ ol ≠ some g) :
    TrailAt S K ol om' (w.setCell ⟨A, 2, none⟩ mv') A B ⟨T.g, T.l, m'⟩ := by
  have m : Mod (fun b => b = A) w (w.setCell ⟨A, 2, none⟩ mv') := (Mod.rfl' (fun b => b = A) w).setd (p := ⟨A, 2, none⟩) (.inl rfl) _
  obtain ⟨lv, mv, q1, q2, q3, q4, q5, q6, q7, q8, q9⟩ := h
  refine ⟨lv, mv', heap_setCell_same w A 2 _ _ _ q1, q2.keep (fun g hg => m.block g (q2.lt g hg) (q7 g hg).2.1) (fun x r _ hR => ?_), hm.keep (fun g hg => m.block g (hm.lt g hg) (h1 g hg).2.1) (fun _ _ _ h => h), q4.keep m (fun b hb => (q5 b hb).2.1), fun b hb => ?_, q6, fun g hg => ⟨(q7 g hg).1, (q7 g hg).2.1, fun h => (h1 g h).2.2.2 hg⟩, fun g hg => ⟨(h1 g hg).1, (h1 g hg).2.1⟩, fun b hb => Nat.lt_of_lt_of_le (q9 b hb) m.size⟩
  · obtain ⟨fv, hr, hb⟩ := hR
    exact ⟨fv, hr, hb.mod m (fun b hb hh => q6 (hh ▸ hb))⟩
  · obtain ⟨a, b, c, d, e⟩ := q5 b hb
    exact ⟨a, b, c, fun h => (h1 _ h).2.2.1 hb, Nat.lt_of_lt_of_le e m.size⟩
theorem undoUndoNil0 (w : World) : Calls Tryz.prog 25 #[.pointer none] w fun e w' => e = .returned (.tuple #[]) ∧ w = w' := by
  go_enter Tryz.func25, Tryz.ntmps25
  go_wp2_with fail
  refine (undoNone0 w).mono ?_
  rintro e w2 ⟨rfl, hw2⟩
  subst hw2
  go_wp2
  go_end0
  exact ⟨rfl, rfl⟩
theorem undoUndoNil1 (A : Nat) (w : World) (h : w.cell? ⟨A, 0, none⟩ = some (.pointer none)) : Calls Tryz.prog 25 #[capU A] w fun e w' => e = .returned (.tuple #[]) ∧ w = w' := by
  go_enter Tryz.func25, Tryz.ntmps25
  go_wp2_with fail
  refine (undoNone1 A w h).mono ?_
  rintro e w2 ⟨rfl, hw2⟩
  subst hw2
  go_wp2
  go_end0
  exact ⟨rfl, rfl⟩

def IdxM (l : List (ByteArray × Nat)) (name : ByteArray) (r : Int) : Prop :=
  (r = -1 ∧ ∀ x ∈ l, x.1 ≠ name) ∨ ∃ (k : Nat) (x : ByteArray × Nat), r = k ∧ l[k]? = some x ∧ x.1 = name ∧ ∀ y ∈ l.take k, y.1 ≠ name
set_option maxHeartbeats 400000 in
theorem find1 (x : ByteArray × Nat) (c : Nat) (name : ByteArray) (w : World) (hc : w.cell? ⟨c, 0, none⟩ = some (.string name)) :
    Calls Tryz.prog 72 #[.agg #[.string x.1, .int .i64 x.2], capU c] w fun e w' => e = .returned (.bool (decide (x.1 = name))) ∧ Grow w w' := by
  obtain ⟨n, k⟩ := x
  have hlt := cell_lt hc
  have hc2 : ∀ o, (w.alloc o).cell? ⟨c, 0, none⟩ = some (.string name) := fun o => ((Grow.rfl' w).allocd o).cell (p := ⟨c, 0, none⟩) hlt |>.trans hc
  have HG := Lib.hid (show ∀ o1, Grow w (w.alloc o1) from fun o1 => (Grow.rfl' w).allocd o1)
  clear hc
  go_enter Tryz.func72, Tryz.ntmps72
  go_wp2
  go_ret
  exact ⟨rfl, HG.out _⟩
set_option maxRecDepth 100000 in
set_option maxHeartbeats 1000000 in
theorem indexMark (S : Nat → Prop) (v : Value) (l : List (ByteArray × Nat)) (c : Nat) (name : ByteArray) (w : World) (hl : SlR S w 2 RMark v l) (hc : w.cell? ⟨c, 0, none⟩ = some (.string name)) :
    Calls Tryz.prog 71 #[v, .func (.func 72) #[] #[capU c]] w fun e w' => ∃ r : Int, e = .returned (.int .i64 r) ∧ IdxM l name r ∧ Grow w w' := by
  obtain ⟨aa, ca, rfl, hal, hac, hA⟩ := SlR.open hl
  clear hl
  unfold maxLen at hac
  have HA := Lib.hid hA; clear hA
  have hlt := cell_lt hc
  have HC := Lib.hid (show ∀ w', Grow w w' → w'.cell? ⟨c, 0, none⟩ = some (.string name) from fun w' g => (g.cell (p := ⟨c, 0, none⟩) hlt).trans hc)
  clear hc
  go_enter Tryz.func71, Tryz.ntmps71
  go_wp2
  go_loopg [8] l.length (fun g i wr => ∃ k : Nat, k ≤ l.length ∧ g = l.length - k ∧ i = .int .i64 k ∧ (∀ y ∈ l.take k, y.1 ≠ name) ∧ Grow w wr)
  case atStart => exact ⟨0, by omega, by omega, rfl, by simp, Grow.rfl' w⟩
  case round =>
    obtain ⟨k, hk, rfl, rfl, hall, hgr⟩ := hrel
    have HALL := Lib.hid hall; clear hall
    by_cases hkl : k < l.length
    · obtain ⟨ba, oa, ra, rfl, hSa, hba, hRa, hca⟩ := HA.out k l[k] (List.getElem?_eq_getElem hkl)
      have hbr : ba < wr.heap.size := Nat.lt_of_lt_of_le hba hgr.size
      unfold RMark at hRa
      subst hRa
      have a0 : wr.cell? ⟨ba, oa + k * 2, none⟩ = some (.string l[k].1) := by
        rw [World.cell?_of_block (w := w) (hgr.heapEq hba)]; exact hca 0 _ rfl
      have a1 : wr.cell? ⟨ba, oa + k * 2 + 1, none⟩ = some (.int .i64 l[k].2) := by
        rw [World.cell?_of_block (w := w) (hgr.heapEq hba)]; exact hca 1 _ rfl
      clear hca hSa hba
      have HE := Lib.hid (show l[k]? = some l[k] from List.getElem?_eq_getElem hkl)
      have HT := Lib.hid (show l.take (k + 1) = l.take k ++ [l[k]] from List.take_succ_eq_append_getElem hkl)
      generalize l[k] = x at *
      cases hn : decide (x.1 = name)
      all_goals
        have HN := Lib.hid hn
        go_wp2_with fail
        refine (find1 x c name _ (HC.out _ hgr)).mono ?_
        rintro e w2 ⟨rfl, hw2⟩
        rw [HN.out]
        clear hn
        go_wp2
      · go_roundg (l.length - (k + 1))
        case measure => omega
        case rel => exact ⟨k + 1, by omega, rfl, by go_num, by rw [HT.out]; intro y hy; rcases List.mem_append.1 hy with h | h; exact HALL.out y h; simp at h; subst h; simpa using HN.out, hgr.step hw2⟩
      · go_ret
        exact ⟨_, rfl, .inr ⟨k, x, rfl, HE.out, by simpa using HN.out, HALL.out⟩, hgr.step hw2⟩
    · have HX := Lib.hid (show l.take k = l from List.take_of_length_le (by omega))
      go_wp2
      go_ret
      exact ⟨_, rfl, .inl ⟨rfl, by rw [← HX.out]; exact HALL.out⟩, hgr⟩
set_option maxRecDepth 100000 in
set_option maxHeartbeats 1000000 in
theorem undoFind (S K : Nat → Prop) (ol om : Option Nat) (A B : Nat) (T : PTrail) (name : ByteArray) (w : World) (h : TrailAt S K ol om w A B T) :
    Calls Tryz.prog 43 #[capU A, .string name] w fun e w' => ∃ r : Int, e = .returned (.int .i64 r) ∧ IdxM T.marks name r ∧ Grow w w' := by
  obtain ⟨la, lc, ma, mc, hA, hAl, c0, c1, c2, -, q3⟩ := h.read
  have hsl : SlR (fun _ => True) w 2 RMark (.slice ma T.marks.length mc) T.marks := q3.toSl (S := fun _ => True) (fun _ _ => trivial)
  have HSL := Lib.hid (show ∀ o1, SlR (fun _ => True) (w.alloc o1) 2 RMark (.slice ma T.marks.length mc) T.marks from fun o1 => hsl.keep (fun b _ hb => ((Grow.rfl' w).allocd o1).heapEq hb) (((Grow.rfl' w).allocd o1).size) (fun _ _ _ h => h))
  have HB := Lib.hid (show ∀ T, (w.alloc (.cells #[.string name] T)).cell? ⟨w.heap.size, 0, none⟩ = some (.string name) from fun T => (blk_cell (heap_alloc_new w _) 0).trans rfl)
  have HG := Lib.hid (show ∀ o1, Grow w (w.alloc o1) from fun o1 => (Grow.rfl' w).allocd o1)
  clear h q3 hsl hA
  go_enter Tryz.func43, Tryz.ntmps43
  go_wp2_with fail
  refine (indexMark (fun _ => True) _ T.marks w.heap.size name _ (HSL.out _) (HB.out _)).mono ?_
  rintro e w2 ⟨r, rfl, hr, hg⟩
  have HR := Lib.hid hr
  clear hr
  go_wp2
  go_ret
  exact ⟨r, rfl, HR.out, (HG.out _).step hg⟩
end Go.Hg

namespace Go.Hg
open Go.RowKit Go.Proofs

theorem infoMark : (Tryz.prog.info? 81).map (fun i => (i.zero, i.size, i.bytes)) = some (some (.agg #[.string ByteArray.empty, .int .i64 0]), 2, 24) := by kernel_rfl
theorem infoChg : (Tryz.prog.info? 78).map (fun i => (i.zero, i.size, i.bytes)) = some (some (.agg #[.int .i64 0, .int .i64 0, .string ByteArray.empty, .int .i64 0, .int .i64 0, .string ByteArray.empty, .int .i64 0, .int .i64 0, .string ByteArray.empty, .bool false, .nilFunc]), 11, 112) := by kernel_rfl

set_option maxRecDepth 100000 in
set_option maxHeartbeats 2000000 in
theorem deleteMark (v : Value) (n : Nat) (xs : List Value) (ob : Option Nat) (i : Nat) (w : World) (hown : OwnS w 81 2 v n xs ob) (hn : n ≤ 1099511627776)
    (hi : i < n) (h1x : ∀ u ∈ xs, u.oneCell' = true) :
    Calls Tryz.prog 44 #[v, .int .i64 i, .int .i64 (i + 1)] w fun e w' =>
      ∃ v', e = .returned v' ∧ OwnS w' 81 2 v' (n - 1) (xs.take (i * 2) ++ xs.drop ((i + 1) * 2)) ob ∧ Mod (fun k => ob = some k) w w' := by
  obtain ⟨iP, hiP, hzP0, hzP1, hzP2⟩ := info_parts infoMark
  have hxl := hown.1
  rcases hown.2 with ⟨_, _, h, _⟩ | ⟨g, cap, cur, rfl, rfl, hblk, hnc, hcm, hcs, htk⟩
  · omega
  have hTP : Tryz.prog.underlying 72 = some (.slice 81) := Tryz.underlying72
  have hlt : g < w.heap.size := blk_lt hblk
  have hlc : cur.toList.length = cap * 2 := by simpa using hcs
  unfold maxLen at hcm
  obtain ⟨cur1, hcur1⟩ : ∃ c1, c1 = cur.toList.take (i * 2) ++ xs.drop ((i + 1) * 2) ++ cur.toList.drop (i * 2 + (xs.drop ((i + 1) * 2)).length) := ⟨_, rfl⟩
  have hrd : ∀ o : Nat, (cap = i + 1 ∨ o = (i + 1) * 2) → ∀ w' : World, w'.heap[g]? = w.heap[g]? → ∀ j u, (xs.drop ((i + 1) * 2))[j]? = some u → w'.cell? ((⟨g, o, none⟩ : Addr).add j) = some u := by
    intro o ho w' hw' j u hu
    rcases ho with ho | rfl
    · rw [List.drop_of_length_le (by omega)] at hu
      cases hu
    rw [Addr.add_lit, blk_cell (hw'.trans hblk), ← Array.getElem?_toList]
    rw [← htk, List.getElem?_drop, List.getElem?_take] at hu
    split at hu
    · exact hu
    · cases hu
  have hd0 := del_take 2 cur.toList xs (List.replicate (1 * 2) (Value.bool false)) i n cap hlc htk hi hnc (by simp) cur1 _ hcur1 rfl
  have hnl := hd0.2.2.2
  have hl1 := hd0.1
  clear hd0
  have hap : ∀ ty c o, (cap = i + 1 ∨ o = (i + 1) * 2) → (Builtin.append_ #[72, 72] ty #[.slice (some ⟨g, 0, none⟩) i cap, .slice (some ⟨g, o, none⟩) (n - (i + 1)) c]).run Tryz.prog w.drew =
      .ok (.slice (some ⟨g, 0, none⟩) (n - 1) cap) (w.drew.setRow g cur1.toArray) := fun ty c o ho => by
    have hr := run_append_room (P := Tryz.prog) w.drew 72 ty 81 iP hTP hiP g i cap cur (by exact hblk) ⟨g, o, none⟩ (n - (i + 1)) c (xs.drop ((i + 1) * 2)) (by rw [hzP1, hnl]; congr 1) (hrd o ho _ rfl) (fun u hu => h1x u (List.mem_of_mem_drop hu)) (by omega) (by rw [hzP1, hnl, hcs]; omega)
    rw [hr, hzP1, ← hcur1, show i + (n - (i + 1)) = n - 1 by omega]
  have hb1 : (w.drew.setRow g cur1.toArray).heap[g]? = some (.cells cur1.toArray 81 (0, 0)) := setRow_heap w.drew g cur cur1.toArray 81 (0, 0) hblk
  obtain ⟨z, hz, hzs, hz1⟩ : ∃ z, (∀ w, (zeroValue 81).run Tryz.prog w = .ok z w) ∧ z.cells.size = 2 ∧ (∀ u ∈ z.cells.toList, u.oneCell' = true) := ⟨.agg #[.string ByteArray.empty, .int .i64 0], fun w => by kernel_rfl, rfl, by decide⟩
  obtain ⟨cs, hcsl, hcl⟩ := run_clear_row (P := Tryz.prog) (w.drew.setRow g cur1.toArray) 72 0 81 z hTP hz g ((n - 1) * 2) 1 (cap - (n - 1)) cur1.toArray 81 hb1 (by rw [hzs]; simp [hl1]; omega) hz1
  rw [hzs] at hcsl
  obtain ⟨cur2, hcur2⟩ : ∃ c2, c2 = cur1.take ((n - 1) * 2) ++ cs ++ cur1.drop ((n - 1) * 2 + cs.length) := ⟨_, rfl⟩
  have hd := del_take 2 cur.toList xs cs i n cap hlc htk hi hnc (by simpa using hcsl) cur1 cur2 hcur1 hcur2
  have hb2 : ((w.drew.setRow g cur1.toArray).setRow g cur2.toArray).heap[g]? = some (.cells cur2.toArray 81 (0, 0)) := setRow_heap _ g _ cur2.toArray 81 (0, 0) hb1
  have HFIN := Lib.hid (show OwnS ((w.drew.setRow g cur1.toArray).setRow g cur2.toArray) 81 2 (.slice (some ⟨g, 0, none⟩) (n - 1) cap) (n - 1) (xs.take (i * 2) ++ xs.drop ((i + 1) * 2)) (some g) from
    ⟨by rw [← hd.2.2.1, List.length_take, hd.2.1]; omega, .inr ⟨g, cap, cur2.toArray, rfl, rfl, hb2, by omega, by unfold maxLen; omega, by simpa using hd.2.1, hd.2.2.1⟩⟩)
  have HMOD := Lib.hid (show Mod (fun k => some g = some k) w ((w.drew.setRow g cur1.toArray).setRow g cur2.toArray) from
    ⟨rfl, rfl, rfl, by simp, fun k hk hh => by rw [setRow_other _ _ _ _ (fun e => hh (by rw [e])), setRow_other _ _ _ _ (fun e => hh (by rw [e]))]; rfl⟩)
  have hcl' : ∀ ty, (Builtin.clear_ #[72] ty #[.slice (some ⟨g, (n - 1) * 2, none⟩) 1 (cap - (n - 1))]).run Tryz.prog (w.drew.setRow g cur1.toArray) = .ok (.tuple #[]) ((w.drew.setRow g cur1.toArray).setRow g cur2.toArray) := by
    intro ty
    rw [hcur2]
    exact hcl
  have HAP := Lib.hid hap
  have hr1 : ¬ n = i := by omega
  have hr3 : ¬ cap = n - 1 := by omega
  have hne : ((i : Int) == (i : Int) + 1) = false := by simp; omega
  have hq1 : (0 : Int) ≤ (i : Int) + 1 := by omega
  have hq2 : (i : Int) ≤ (i : Int) + 1 := by omega
  have hq3 : (i : Int) + 1 ≤ (n : Int) := by omega
  have hq4 : ((i : Int) + 1).toNat = i + 1 := by omega
  have hq5 : (n : Int) ≤ (cap : Int) := by omega
  have hq6 : (i : Int) ≤ (cap : Int) := by omega
  have hq7 : (((n - 1 : Nat) : Int)) ≤ (n : Int) := by omega
  have hq8 : n - (n - 1) = 1 := by omega
  have HSELF := Lib.hid (show cap = i + 1 → w.drew.setRow g cur1.toArray = w.drew by
    intro hce
    have e : cur1.toArray = cur := by
      rw [hcur1, List.drop_of_length_le (by omega)]
      simp
    rw [e]
    exact setRow_self w.drew g cur 81 (0, 0) hblk)
  clear hown hblk hxl htk hlc hcur1 hrd hnl hl1 hap hb1 hz hzs hz1 hcsl hcl hcur2 hd hb2 hcs h1x
  by_cases hce : cap = i + 1
  · have hself := HSELF.out hce
    clear HAP HSELF
    rw [hself] at hcl' HFIN HMOD
    obtain rfl : n = i + 1 := by omega
    subst hce
    simp only [Nat.add_sub_cancel, Nat.add_sub_cancel_left] at *
    go_enter Tryz.func44, Tryz.ntmps44
    go_wp2_with fail
    go_region
    go_wp2
    go_ret
    exact ⟨_, rfl, HFIN.out, HMOD.out⟩
  · have HAP2 := Lib.hid (fun ty c => HAP.out ty c _ (.inr rfl))
    clear HAP
    go_enter Tryz.func44, Tryz.ntmps44
    go_wp2_with fail
    go_region_law (refine step_run rfl (exec_append _ (.tmp 22) (.tmp 25) 72 72 rfl (by simp [Act.eval, Act.put]) (show _ = Value.slice (some ⟨g, (i + 1) * 2, none⟩) (n - (i + 1)) (cap - (i + 1)) by simp [Act.eval, Act.put]) (fun ty => HAP2.out ty _)) ?_)
    go_wp2
    go_ret
    exact ⟨_, rfl, HFIN.out, HMOD.out⟩

section
variable {P : Program} {ops : Array Oper} {Q : Exit → Act → World → Prop} {md : Region.Mode} {S : World → Prop}
end
end Go.Hg
