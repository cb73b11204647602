/- hedgerowref17.Do: a change. Conditions: those that each theorem names. -/
import Derived.WalkKit
import Derived.WalkSpells
import Derived.WalkLawsBesides
import Derived.Lib.Hide
import Derived.BigQuiet
import Derived.Deep.LoopGhost
import Derived.Test.YtfachjfohhhgeaaGreatRows
import Derived.Lib.SliceRun
import Derived.WideMake
import Derived.Deep.RegionLaw
import Derived.Lib.Overlaps
import Derived.Deep.RegionHeld3
import Derived.Laws.ResultCell
import Derived.Laws.EntriesVeiled
import Derived.Test.YtfachjfohhhgeaaGreatUdL
import Derived.Test.YtfachjfohhhgeaaGreatUdN
import Derived.Test.YtfachjfohhhgeaaGreatUdQ
namespace Go.Hg
open Go.RowKit Go.Proofs

def RDoPost (S : Nat → Prop) (B : Nat) (G : PGraph) (c : PCat) (o : POp) (w : World) (e : Ending) (w' : World) : Prop :=
  e = .returned (.tuple #[.int .i64 (if mayG c o G = 0 then idG o G else 0), .int .i64 (mayG c o G)]) ∧ GraphOk 86 (fun b => S b ∨ w.heap.size ≤ b) w' B (stepG c o G) ∧ Mod S w w'
theorem rdo_fin {S : Nat → Prop} {B : Nat} {G G2 : PGraph} {c : PCat} {o : POp} {w w2 w3 : World} {e : Ending} (hm : mayG c o G = 0) (hg : Grow w w2) (he : e = .returned (.tuple #[.int .i64 (idG o G), .int .i64 (mayG c o G)]))
    (h : GraphOk 86 (fun b => S b ∨ w2.heap.size ≤ b) w3 B G2) (m : Mod S w2 w3) (hG : G2 = doG o G := by rfl) : RDoPost S B G c o w e w3 := by
  subst hG
  refine ⟨by rw [he, if_pos hm], ?_, (Mod.of_grow hg).step m⟩
  unfold stepG
  rw [if_pos hm]
  exact h.sub (fun b hb => hb.imp (fun x => x) (fun h => Nat.le_trans hg.size h))
theorem GraphOk.root {T : TypeId} {S : Nat → Prop} {w : World} {B : Nat} {G : PGraph} (h : GraphOk T S w B G) : S B := by
  obtain ⟨_, _, _, _, _, _, h, _⟩ := h; exact h
theorem GraphOk.rootLt {T : TypeId} {S : Nat → Prop} {w : World} {B : Nat} {G : PGraph} (h : GraphOk T S w B G) : B < w.heap.size := by
  obtain ⟨_, _, _, _, _, h, _⟩ := h; exact blk_lt h
def cutTo (G : PGraph) (L : List Int) : PGraph := ⟨G.nodes, G.edges.filter (fun x => !decide (x.id ∈ L)), G.next⟩
theorem cutTo_nil (G : PGraph) : cutTo G [] = G := by
  unfold cutTo
  rw [List.filter_eq_self.2 (by simp)]
theorem cutTo_step {G : PGraph} {L : List Int} {j : Nat} (hj : j < L.length) : cutTo G (L.take (j + 1)) = ⟨(cutTo G (L.take j)).nodes, (cutTo G (L.take j)).edges.filter (fun x => !decide (x.id = L[j])), (cutTo G (L.take j)).next⟩ := by
  unfold cutTo
  simp only [List.filter_filter, PGraph.mk.injEq, true_and, and_true]
  rw [List.take_succ_eq_append_getElem hj]
  refine List.filter_congr fun x _ => ?_
  simp only [List.mem_append, List.mem_singleton]
  by_cases h1 : x.id ∈ L.take j <;> by_cases h2 : x.id = L[j] <;> simp [h1, h2]
theorem cutTo_sorted {G : PGraph} {L : List Int} (h : (G.edges.map (·.id)).Pairwise (· < ·)) : ((cutTo G L).edges.map (·.id)).Pairwise (· < ·) := h.sublist (map_sub _ _ _)
theorem cutTo_len {G : PGraph} {L : List Int} : (cutTo G L).edges.length ≤ G.edges.length := List.length_filter_le _ _
theorem atG_up {G : PGraph} {id : Int} (h : (G.edges.map (·.id)).Pairwise (· < ·)) : (atG G id).Pairwise (· < ·) := h.sublist (map_sub _ _ _)
theorem atG_has {G : PGraph} {id : Int} : ∀ y ∈ atG G id, hasE G y = true := fun y hy => by
  obtain ⟨x, hx, rfl⟩ := List.mem_map.1 hy
  exact List.any_eq_true.2 ⟨x, (List.mem_filter.1 hx).1, by simp⟩
theorem cutTo_has {G : PGraph} {L : List Int} {j : Nat} {y : Int} (hs : L.Pairwise (· < ·)) (h : hasE G y = true) (hj : j < L.length) (hy : L[j] = y) : hasE (cutTo G (L.take j)) y = true := by
  obtain ⟨x, hx, hxi⟩ := List.any_eq_true.1 h
  refine List.any_eq_true.2 ⟨x, List.mem_filter.2 ⟨hx, ?_⟩, hxi⟩
  have hxi' : x.id = y := by simpa using hxi
  rw [hxi', decide_eq_false]
  · rfl
  · intro hm
    obtain ⟨i, hi, he⟩ := List.mem_take_iff_getElem.1 hm
    have := List.pairwise_iff_getElem.1 hs i j (by omega) hj (by omega)
    omega
theorem atG_end {G : PGraph} {id : Int} (hs : (G.edges.map (·.id)).Pairwise (· < ·)) : cutTo G (atG G id) = ⟨G.nodes, G.edges.filter (fun x => !atE x id), G.next⟩ := by
  unfold cutTo
  congr 1
  refine List.filter_congr fun x hx => ?_
  congr 1
  cases h : atE x id
  · refine decide_eq_false fun hm => ?_
    obtain ⟨y, hy, hyx⟩ := List.mem_map.1 hm
    obtain ⟨hy1, hy2⟩ := List.mem_filter.1 hy
    obtain ⟨i, hi⟩ := List.getElem?_of_mem hx
    obtain ⟨j, hj⟩ := List.getElem?_of_mem hy1
    have e1 := find_idx (fun x : PEdge => x.id) hs hi rfl
    have e2 := find_idx (fun x : PEdge => x.id) hs hj hyx
    rw [e1] at e2
    simp only [Option.some.injEq] at e2
    subst e2
    rw [h] at hy2; cases hy2
  · exact decide_eq_true (List.mem_map.2 ⟨x, List.mem_filter.2 ⟨hx, h⟩, rfl⟩)
theorem IdsO.readsM {w : World} {a : Option Addr} {cap : Nat} {l : List Int} {ob : Option Nat} (h : IdsO w (.slice a l.length cap) l ob) :
    ∀ (j : Nat) y, l[j]? = some y → ∃ b off, a = some ⟨b, off, none⟩ ∧ ∀ (F : Nat → Prop) w', Mod F w w' → (∀ b, ob = some b → ¬ F b) → b < w'.heap.size ∧ w'.cell? ⟨b, off + j, none⟩ = some (.int .i64 y) := by
  intro j y hy
  obtain ⟨a', cap', hv, h1, h2, hA⟩ := SlR.open (h.toR (S := fun b => ob = some b) (fun _ h => h))
  simp only [Value.slice.injEq, true_and] at hv
  obtain ⟨rfl, rfl⟩ := hv
  obtain ⟨b, off, r, ha, hb0, hb, rfl, hc⟩ := hA j y hy
  refine ⟨b, off, ha, fun F w' hm hn => ⟨Nat.lt_of_lt_of_le hb hm.size, ?_⟩⟩
  rw [World.cell?_of_block (w := w) (hm.block b hb (hn b hb0))]
  have := hc 0 _ rfl
  rw [Nat.mul_one] at this
  exact this

set_option maxRecDepth 100000 in
set_option maxHeartbeats 1000000 in
theorem rdoNo (S SC : Nat → Prop) (B : Nat) (G : PGraph) (nv ev rv iv : Value) (c : PCat) (o : POp) (w : World) (h : GraphOk 86 S w B G) (hG : GInv G) (hc : CatR SC w nv ev rv iv c) (hm : ¬ mayG c o G = 0) :
    Calls Tryz.prog 18 #[.pointer (some ⟨B, 0, none⟩), c.arg nv ev rv iv, o.args] w (RDoPost S B G c o w) := by
  have HGR := Lib.hid h; have HI := Lib.hid hG; have HC := Lib.hid hc; have HM := Lib.hid hm
  obtain ⟨na, nc, ea, ec, ra, rc, ia, ic, rfl, rfl, rfl, rfl⟩ := hc.slices
  have HW := Lib.hid (show ∀ o1 o2, Grow w ((w.alloc o1).alloc o2) from fun o1 o2 => ((Grow.rfl' w).allocd o1).allocd o2)
  have HBX := Lib.hid (boxes w (.slice na c.nodes.length nc) (.slice ea c.edges.length ec) (.slice ra c.rules.length rc) (.slice ia c.indexes.length ic) c o)
  have hmb : (mayG c o G == 0) = false := by simpa using hm
  clear h hc hG
  go_enter Tryz.func18, Tryz.ntmps18
  go_wp2_with fail
  refine (refMay S SC B G _ _ _ _ c o _ (HGR.out.rd.grow (HW.out _ _)) HI.out (HC.out.grow (HW.out _ _))).mono ?_
  rintro e w2 ⟨rfl, hg⟩
  have HG2 := Lib.hid ((HW.out _ _).step hg)
  clear hg
  go_wp2
  go_ret2
  refine ⟨by rw [if_neg HM.out]; rfl, ?_, Mod.of_grow HG2.out⟩
  unfold stepG
  rw [if_neg HM.out]
  exact (HGR.out.grow HG2.out).sub (fun b hb => .inl hb)


set_option maxRecDepth 100000 in
set_option maxHeartbeats 4000000 in
theorem rdo1 (S SC : Nat → Prop) (B : Nat) (G : PGraph) (nv ev rv iv : Value) (c : PCat) (o : POp) (w : World) (h : GraphOk 86 S w B G) (hG : GInv G) (hc : CatR SC w nv ev rv iv c) (hm : mayG c o G = 0) (hk : o.kind = 1) :
    Calls Tryz.prog 18 #[.pointer (some ⟨B, 0, none⟩), c.arg nv ev rv iv, o.args] w (RDoPost S B G c o w) := by
  have HGR := Lib.hid h; have HI := Lib.hid hG; have HC := Lib.hid hc
  obtain ⟨kind, id, typ, from_, to_, name, v, cascade⟩ := o
  subst hk
  have HM := Lib.hid hm
  obtain ⟨na, nc, ea, ec, ra, rc, ia, ic, rfl, rfl, rfl, rfl⟩ := hc.slices
  have HW := Lib.hid (show ∀ o1 o2, Grow w ((w.alloc o1).alloc o2) from fun o1 o2 => ((Grow.rfl' w).allocd o1).allocd o2)
  have HBX := Lib.hid (boxes w (.slice na c.nodes.length nc) (.slice ea c.edges.length ec) (.slice ra c.rules.length rc) (.slice ia c.indexes.length ic) c ⟨1, id, typ, from_, to_, name, v, cascade⟩)
  clear h hc hG hm
  go_enter Tryz.func18, Tryz.ntmps18
  go_wp2_with fail
  refine (refMay S SC B G _ _ _ _ c ⟨1, id, typ, from_, to_, name, v, cascade⟩ _ (HGR.out.rd.grow (HW.out _ _)) HI.out (HC.out.grow (HW.out _ _))).mono ?_
  rintro e w2 ⟨rfl, hg⟩
  rw [HM.out]
  have HG2 := Lib.hid ((HW.out _ _).step hg)
  have HOP2 := Lib.hid (HBX.out.2.grow hg)
  obtain ⟨hl2, c0, c1, c2, c3, c4, c5, c6, c7, c8, c9⟩ := HOP2.out.at
  have HGR2 := Lib.hid (HGR.out.cut.grow HG2.out)
  have HLN := Lib.hid HI.out.items
  clear hg
  obtain ⟨gnv, gev, R, on, oe, h1, h2, h3, h4, h5, h6, h7, h8⟩ := HGR2.out.parts (by decide) (by decide)
  have H2 := Lib.hid h2; have H3 := Lib.hid h3; have H4 := Lib.hid h4; have H5 := Lib.hid h5; have H6 := Lib.hid h6; have H7 := Lib.hid h7; have H8 := Lib.hid h8
  have HBW := Lib.hid h1
  have hBW : B < w2.heap.size := blk_lt h1
  have g2 : w2.cell? ⟨B, 2, none⟩ = some (.int .i64 G.next) := by rw [blk_cell h1]; rfl
  clear h1 h2 h3 h4 h5 h6 h7 h8
  obtain ⟨iP, hiP, hzP0, hzP1, hzP2⟩ := info_parts infoNode
  obtain ⟨hx1, hx2⟩ := full_no (may_full1 HM.out)
  have HX1 := Lib.hid hx1
  have hwn : IntKind.i64.wrap (G.next + 1) = G.next + 1 := by have := HI.out.next0; rw [IntKind.wrap_i64]; omega
  obtain ⟨oa, cap, hnv⟩ : ∃ oa cap, gnv = .slice oa G.nodes.length cap := by obtain ⟨_, _, _, h⟩ := H7.out; obtain ⟨oa, cap, h, _⟩ := h.isSlice; exact ⟨oa, cap, h⟩
  subst hnv
  have g0 : w2.cell? ⟨B, 0, none⟩ = some (.slice oa G.nodes.length cap) := by rw [blk_cell HBW.out]; rfl
  have f0 := blk_free HBW.out 0
  obtain ⟨rows, hr1, hr2, hr3, hos⟩ := H7.out.rowLen
  have HOS := Lib.hid (show ∀ o1, OwnS (w2.drew.alloc o1) 89 3 (.slice oa G.nodes.length cap) G.nodes.length rows.flatten on from fun o1 => hos.grow (((Grow.rfl' w2).drewd).allocd o1))
  have HR2 := Lib.hid hr2; have HR3 := Lib.hid hr3; have HR1 := Lib.hid hr1
  have HRD := Lib.hid (Rd.lit w2.drew #[.int .i64 G.next, .string typ, .slice none 0 0] 89 3 1 rfl)
  have HBK := Lib.hid (show ∀ o1, (w2.drew.alloc o1).heap[B]? = some (.cells #[.slice oa G.nodes.length cap, gev, .int .i64 G.next] 86 (0, 0)) from fun o1 => ((((Grow.rfl' w2).drewd).allocd o1).heapEq hBW).trans HBW.out)
  have HSS := Lib.hid (show ∀ w', Mod (fun b => b = B ∨ on = some b) w2 w' → (w'.cell? ⟨w.heap.size + 1, 2, none⟩ = some (.string typ)) from fun w' hm => by
    have hb : ¬ (w.heap.size + 1 = B ∨ on = some (w.heap.size + 1)) := fun e => e.elim (fun e => by have := H2.out.2; omega) (fun e => by have := (H5.out _ e).1.2; omega)
    obtain ⟨-, -, -, d2, d3, d4, -⟩ := (HOP2.out.mod hm hb).at
    exact d2)
  clear hr1 hr2 hr3 hos hx1
  go_wp2_with fail
  refine wp_region_noPanic ?_
  refine wp_region_held_drew (S := (fun w' => w'.cell? ⟨w.heap.size + 1, 2, none⟩ = some (.string typ))) (by kernel_rfl) ?_ (fun hHeld => ?_)
  · exact HSS.out _ ((Mod.rfl' _ w2).drewd)
  refine' wpAnyH_take (i := 0) (oi := ?o1) (v := _) (by simp only [List.getElem?_toArray, List.getElem?_cons_zero]; rfl) (by kernel_rfl) (by kernel_rfl) (by kernel_rfl) (fun _ _ _ h => h) (Or.inl ⟨by rfl, ?y1⟩) (by assumption) ?r1
  case y1 =>
    intro wS hSw
    try dsimp only at hSw
    go_simp
    all_goals with_reducible rfl
  simp only [Act.put, List.setIfInBounds_toArray, List.set_cons_zero, List.set_cons_succ]
  refine' wpAnyH_take (i := 1) (oi := ?o2) (v := _) (by simp only [List.getElem?_toArray, List.getElem?_cons_succ, List.getElem?_cons_zero]; rfl) (by kernel_rfl) (by kernel_rfl) (by kernel_rfl) (fun _ _ _ h => h) (Or.inl ⟨by rfl, ?y2⟩) (by assumption) ?r2
  case y2 =>
    intro wS hSw
    try dsimp only at hSw
    go_simp
    all_goals with_reducible rfl
  simp only [Act.put, List.setIfInBounds_toArray, List.set_cons_zero, List.set_cons_succ]
  refine' wpAnyH_take (i := 2) (oi := ?o3) (v := _) (by simp only [List.getElem?_toArray, List.getElem?_cons_succ, List.getElem?_cons_zero]; rfl) (by kernel_rfl) (by kernel_rfl) (by kernel_rfl) (fun _ _ _ h => h) (Or.inl ⟨by rfl, ?y3⟩) (by assumption) ?r3
  case y3 =>
    intro wS hSw
    try dsimp only at hSw
    go_simp
    all_goals with_reducible rfl
  simp only [Act.put, List.setIfInBounds_toArray, List.set_cons_zero, List.set_cons_succ]
  refine' wpAnyH_take (i := 3) (oi := ?o4) (v := _) (by simp only [List.getElem?_toArray, List.getElem?_cons_succ, List.getElem?_cons_zero]; rfl) (by kernel_rfl) (by kernel_rfl) (by kernel_rfl) (fun _ _ _ h => h) (Or.inl ⟨by rfl, ?y4⟩) (by assumption) ?r4
  case y4 =>
    intro wS hSw
    try dsimp only at hSw
    go_simp
    all_goals with_reducible rfl
  simp only [Act.put, List.setIfInBounds_toArray, List.set_cons_zero, List.set_cons_succ]
  refine' wpAnyH_take (i := 5) (oi := ?o5) (v := _) (by simp only [List.getElem?_toArray, List.getElem?_cons_succ, List.getElem?_cons_zero]; rfl) (by kernel_rfl) (by kernel_rfl) (by kernel_rfl) (fun _ _ _ h => h) (Or.inl ⟨by rfl, ?y5⟩) (by assumption) ?r5
  case y5 =>
    intro wS hSw
    try dsimp only at hSw
    go_simp
    all_goals with_reducible rfl
  simp only [Act.put, List.setIfInBounds_toArray, List.set_cons_zero, List.set_cons_succ]
  refine' wpAnyH_take (i := 6) (oi := ?o6) (v := _) (by simp only [List.getElem?_toArray, List.getElem?_cons_succ, List.getElem?_cons_zero]; rfl) (by kernel_rfl) (by kernel_rfl) (by kernel_rfl) (fun _ _ _ h => h) (Or.inl ⟨by rfl, ?y6⟩) (by assumption) ?r6
  case y6 =>
    intro wS hSw
    try dsimp only at hSw
    go_simp
    all_goals with_reducible rfl
  simp only [Act.put, List.setIfInBounds_toArray, List.set_cons_zero, List.set_cons_succ]
  refine' wpAnyH_take (i := 7) (oi := ?o7) (v := _) (by simp only [List.getElem?_toArray, List.getElem?_cons_succ, List.getElem?_cons_zero]; rfl) (by kernel_rfl) (by kernel_rfl) (by kernel_rfl) (fun _ _ _ h => h) (Or.inl ⟨by rfl, ?y7⟩) (by assumption) ?r7
  case y7 =>
    intro wS hSw
    try dsimp only at hSw
    go_simp
    all_goals with_reducible rfl
  simp only [Act.put, List.setIfInBounds_toArray, List.set_cons_zero, List.set_cons_succ]
  refine' wpAnyH_take (i := 8) (oi := ?o8) (v := _) (by simp only [List.getElem?_toArray, List.getElem?_cons_succ, List.getElem?_cons_zero]; rfl) (by kernel_rfl) (by kernel_rfl) (by kernel_rfl) (fun _ _ _ h => h) (Or.inl ⟨by rfl, ?y8⟩) (by assumption) ?r8
  case y8 =>
    intro wS hSw
    try dsimp only at hSw
    go_simp
    all_goals with_reducible rfl
  simp only [Act.put, List.setIfInBounds_toArray, List.set_cons_zero, List.set_cons_succ]
  refine wpAnyH_ready (rs := [4, 9]) (by kernel_rfl) (by simp) ?_
  refine' AllReadyH.cons (o := ?o9) (by simp only [List.getElem?_toArray, List.getElem?_cons_succ, List.getElem?_cons_zero]; rfl) (fun K hK => ?s9) ?m9
  rotate_left
  · refine' AllReadyH.cons (o := ?o10) (by simp only [List.getElem?_toArray, List.getElem?_cons_succ, List.getElem?_cons_zero]; rfl) (fun K hK => ?s10) ?m10
    case m10 => exact AllReadyH.nil
    go_simp
    refine hK.out _ _ ?_ (fun hHeld => ?_)
    · exact HSS.out _ (((Mod.rfl' _ w2).drewd).allocd _)
    clear hK K
    try simp only [Act.put, List.setIfInBounds_toArray, List.set_cons_zero, List.set_cons_succ]
    refine wpAnyH_ready (rs := [4]) (by kernel_rfl) (by simp) ?_
    refine' AllReadyH.cons (o := ?o11) (by simp only [List.getElem?_toArray, List.getElem?_cons_succ, List.getElem?_cons_zero]; rfl) (fun K hK => ?s11) ?m11
    case m11 => exact AllReadyH.nil
    go_simp
    refine hK.out _ _ ?_ (fun hHeld => ?_)
    · exact HSS.out _ (((Mod.rfl' _ w2).drewd).allocd _)
    clear hK K
    try simp only [Act.put, List.setIfInBounds_toArray, List.set_cons_zero, List.set_cons_succ]
    refine wpAnyH_ready (rs := [10]) (by kernel_rfl) (by simp) ?_
    refine' AllReadyH.cons (o := ?o12) (by simp only [List.getElem?_toArray, List.getElem?_cons_succ, List.getElem?_cons_zero]; rfl) (fun K hK => ?s12) ?m12
    case m12 => exact AllReadyH.nil
    (refine step_append_S rfl (.tmp 33) (.tmp 38) 59 rfl 89 iP _ 3 48 Tryz.underlying59 hiP hzP0 hzP1 hzP2 rfl (by decide) (.slice oa G.nodes.length cap) G.nodes.length rows.flatten on (by simp [Act.eval]) (HOS.out _) (.slice (some ⟨w2.heap.size, 0, none⟩) 1 1) (by simp [Act.eval]) 1 _ HRD.out (by intro u hu; simp only [List.mem_cons, List.not_mem_nil, or_false] at hu; rcases hu with rfl | rfl | rfl <;> rfl) (by have := HX1.out; unfold maxLen; omega) (by have := HX1.out; omega) ?_; intro v5 w5 on5 k1 k2 k3 k4; obtain ⟨oa5, cap5, rfl, -, -⟩ := k1.isSlice; have K1 := Lib.hid k1; have K2 := Lib.hid k2; have K3 := Lib.hid k3; have HM5 := Lib.hid ((Mod.of_grow (F := fun b => b = B ∨ on = some b) (((Grow.rfl' w2).drewd).allocd _)).step (k2.mono (fun b hb => .inr hb))); have hb5 := (k2.block B (Nat.lt_of_lt_of_le hBW ((((Grow.rfl' w2).drewd).allocd _).size)) (fun hh => (H5.out B hh).2.2.1 rfl)).trans (HBK.out _); have HB5 := Lib.hid hb5; have hB5 := blk_lt hb5; have q0 : w5.cell? ⟨B, 0, none⟩ = some (.slice oa G.nodes.length cap) := (blk_cell hb5 0).trans rfl; have qf := blk_free hb5 0; have q2 : w5.cell? ⟨B, 2, none⟩ = some (.int .i64 G.next) := (blk_cell hb5 2).trans rfl; have qf2 := blk_free hb5 2; clear hb5 k1 k2 k3 k4)
    refine hK.out _ _ ?_ (fun hHeld => ?_)
    · exact HSS.out _ HM5.out
    clear hK K
    try simp only [Act.put, List.setIfInBounds_toArray, List.set_cons_zero, List.set_cons_succ]
    refine' wpAnyH_take (i := 11) (oi := ?o13) (v := _) (by simp only [List.getElem?_toArray, List.getElem?_cons_succ, List.getElem?_cons_zero]; rfl) (by kernel_rfl) (by kernel_rfl) (by kernel_rfl) (fun _ _ _ h => h) (Or.inl ⟨by rfl, ?y13⟩) (by assumption) ?r13
    case y13 =>
      intro wS hSw
      try dsimp only at hSw
      go_simp
      all_goals with_reducible rfl
    simp only [Act.put, List.setIfInBounds_toArray, List.set_cons_zero, List.set_cons_succ]
    refine' wpAnyH_take (i := 12) (oi := ?o14) (v := _) (by simp only [List.getElem?_toArray, List.getElem?_cons_succ, List.getElem?_cons_zero]; rfl) (by kernel_rfl) (by kernel_rfl) (by kernel_rfl) (fun _ _ _ h => h) (Or.inl ⟨by rfl, ?y14⟩) (by assumption) ?r14
    case y14 =>
      intro wS hSw
      try dsimp only at hSw
      go_simp
      all_goals with_reducible rfl
    simp only [Act.put, List.setIfInBounds_toArray, List.set_cons_zero, List.set_cons_succ]
    refine wpAnyH_ready (rs := [13]) (by kernel_rfl) (by simp) ?_
    refine' AllReadyH.cons (o := ?o15) (by simp only [List.getElem?_toArray, List.getElem?_cons_succ, List.getElem?_cons_zero]; rfl) (fun K hK => ?s15) ?m15
    case m15 => exact AllReadyH.nil
    go_simp
    refine hK.out _ _ ?_ (fun hHeld => ?_)
    · exact HSS.out _ (HM5.out.setd (p := ⟨B, 0, none⟩) (.inl (.inl rfl)) _)
    clear hK K
    try simp only [Act.put, List.setIfInBounds_toArray, List.set_cons_zero, List.set_cons_succ]
    refine wpAnyH_done (by kernel_rfl) ?_ _
    refine NoPanic.normal ?_
    have HB6 := Lib.hid (show (w5.setCell ⟨B, 0, none⟩ (.slice oa5 (G.nodes.length + 1) cap5)).heap[B]? = some (.cells #[.slice oa5 (G.nodes.length + 1) cap5, gev, .int .i64 G.next] 86 (0, 0)) from heap_setCell_same w5 B 0 _ _ _ HB5.out)
    go_wp2
    go_ret2
    have hcl := raddN_close (o := ⟨1, id, typ, from_, to_, name, v, cascade⟩) H2.out H3.out H4.out H5.out H6.out H8.out HR1.out HR3.out (Mod.of_grow (Grow.drewd (Grow.rfl' w2) |>.allocd _)) K1.out K2.out K3.out (((Mod.rfl' (fun b => b = B) w5).setd (p := ⟨B, 0, none⟩) (.inl rfl) _).setd (p := ⟨B, 2, none⟩) (.inl rfl) _) (heap_setCell_same _ B 2 _ _ _ HB6.out) hBW
    refine rdo_fin HM.out HG2.out ?_ (hcl.1.sub (fun b hb => hb.imp (fun h => h.1) (fun h => h))) (hcl.2.mono (fun b hb => hb.1))
    rw [HM.out]; rfl
  go_simp
  refine hK.out _ _ ?_ (fun hHeld => ?_)
  · exact HSS.out _ ((Mod.rfl' _ w2).drewd)
  clear hK K
  try simp only [Act.put, List.setIfInBounds_toArray, List.set_cons_zero, List.set_cons_succ]
  refine wpAnyH_ready (rs := [9]) (by kernel_rfl) (by simp) ?_
  refine' AllReadyH.cons (o := ?o16) (by simp only [List.getElem?_toArray, List.getElem?_cons_succ, List.getElem?_cons_zero]; rfl) (fun K hK => ?s16) ?m16
  case m16 => exact AllReadyH.nil
  go_simp
  refine hK.out _ _ ?_ (fun hHeld => ?_)
  · exact HSS.out _ (((Mod.rfl' _ w2).drewd).allocd _)
  clear hK K
  try simp only [Act.put, List.setIfInBounds_toArray, List.set_cons_zero, List.set_cons_succ]
  refine wpAnyH_ready (rs := [10]) (by kernel_rfl) (by simp) ?_
  refine' AllReadyH.cons (o := ?o17) (by simp only [List.getElem?_toArray, List.getElem?_cons_succ, List.getElem?_cons_zero]; rfl) (fun K hK => ?s17) ?m17
  case m17 => exact AllReadyH.nil
  (refine step_append_S rfl (.tmp 33) (.tmp 38) 59 rfl 89 iP _ 3 48 Tryz.underlying59 hiP hzP0 hzP1 hzP2 rfl (by decide) (.slice oa G.nodes.length cap) G.nodes.length rows.flatten on (by simp [Act.eval]) (HOS.out _) (.slice (some ⟨w2.heap.size, 0, none⟩) 1 1) (by simp [Act.eval]) 1 _ HRD.out (by intro u hu; simp only [List.mem_cons, List.not_mem_nil, or_false] at hu; rcases hu with rfl | rfl | rfl <;> rfl) (by have := HX1.out; unfold maxLen; omega) (by have := HX1.out; omega) ?_; intro v5 w5 on5 k1 k2 k3 k4; obtain ⟨oa5, cap5, rfl, -, -⟩ := k1.isSlice; have K1 := Lib.hid k1; have K2 := Lib.hid k2; have K3 := Lib.hid k3; have HM5 := Lib.hid ((Mod.of_grow (F := fun b => b = B ∨ on = some b) (((Grow.rfl' w2).drewd).allocd _)).step (k2.mono (fun b hb => .inr hb))); have hb5 := (k2.block B (Nat.lt_of_lt_of_le hBW ((((Grow.rfl' w2).drewd).allocd _).size)) (fun hh => (H5.out B hh).2.2.1 rfl)).trans (HBK.out _); have HB5 := Lib.hid hb5; have hB5 := blk_lt hb5; have q0 : w5.cell? ⟨B, 0, none⟩ = some (.slice oa G.nodes.length cap) := (blk_cell hb5 0).trans rfl; have qf := blk_free hb5 0; have q2 : w5.cell? ⟨B, 2, none⟩ = some (.int .i64 G.next) := (blk_cell hb5 2).trans rfl; have qf2 := blk_free hb5 2; clear hb5 k1 k2 k3 k4)
  refine hK.out _ _ ?_ (fun hHeld => ?_)
  · exact HSS.out _ HM5.out
  clear hK K
  try simp only [Act.put, List.setIfInBounds_toArray, List.set_cons_zero, List.set_cons_succ]
  refine' wpAnyH_take (i := 11) (oi := ?o18) (v := _) (by simp only [List.getElem?_toArray, List.getElem?_cons_succ, List.getElem?_cons_zero]; rfl) (by kernel_rfl) (by kernel_rfl) (by kernel_rfl) (fun _ _ _ h => h) (Or.inl ⟨by rfl, ?y18⟩) (by assumption) ?r18
  case y18 =>
    intro wS hSw
    try dsimp only at hSw
    go_simp
    all_goals with_reducible rfl
  simp only [Act.put, List.setIfInBounds_toArray, List.set_cons_zero, List.set_cons_succ]
  refine' wpAnyH_take (i := 12) (oi := ?o19) (v := _) (by simp only [List.getElem?_toArray, List.getElem?_cons_succ, List.getElem?_cons_zero]; rfl) (by kernel_rfl) (by kernel_rfl) (by kernel_rfl) (fun _ _ _ h => h) (Or.inl ⟨by rfl, ?y19⟩) (by assumption) ?r19
  case y19 =>
    intro wS hSw
    try dsimp only at hSw
    go_simp
    all_goals with_reducible rfl
  simp only [Act.put, List.setIfInBounds_toArray, List.set_cons_zero, List.set_cons_succ]
  refine wpAnyH_ready (rs := [13]) (by kernel_rfl) (by simp) ?_
  refine' AllReadyH.cons (o := ?o20) (by simp only [List.getElem?_toArray, List.getElem?_cons_succ, List.getElem?_cons_zero]; rfl) (fun K hK => ?s20) ?m20
  case m20 => exact AllReadyH.nil
  go_simp
  refine hK.out _ _ ?_ (fun hHeld => ?_)
  · exact HSS.out _ (HM5.out.setd (p := ⟨B, 0, none⟩) (.inl (.inl rfl)) _)
  clear hK K
  try simp only [Act.put, List.setIfInBounds_toArray, List.set_cons_zero, List.set_cons_succ]
  refine wpAnyH_done (by kernel_rfl) ?_ _
  refine NoPanic.normal ?_
  have HB6 := Lib.hid (show (w5.setCell ⟨B, 0, none⟩ (.slice oa5 (G.nodes.length + 1) cap5)).heap[B]? = some (.cells #[.slice oa5 (G.nodes.length + 1) cap5, gev, .int .i64 G.next] 86 (0, 0)) from heap_setCell_same w5 B 0 _ _ _ HB5.out)
  go_wp2
  go_ret2
  have hcl := raddN_close (o := ⟨1, id, typ, from_, to_, name, v, cascade⟩) H2.out H3.out H4.out H5.out H6.out H8.out HR1.out HR3.out (Mod.of_grow (Grow.drewd (Grow.rfl' w2) |>.allocd _)) K1.out K2.out K3.out (((Mod.rfl' (fun b => b = B) w5).setd (p := ⟨B, 0, none⟩) (.inl rfl) _).setd (p := ⟨B, 2, none⟩) (.inl rfl) _) (heap_setCell_same _ B 2 _ _ _ HB6.out) hBW
  refine rdo_fin HM.out HG2.out ?_ (hcl.1.sub (fun b hb => hb.imp (fun h => h.1) (fun h => h))) (hcl.2.mono (fun b hb => hb.1))
  rw [HM.out]; rfl


set_option maxRecDepth 100000 in
set_option maxHeartbeats 4000000 in
theorem rdo2 (S SC : Nat → Prop) (B : Nat) (G : PGraph) (nv ev rv iv : Value) (c : PCat) (o : POp) (w : World) (h : GraphOk 86 S w B G) (hG : GInv G) (hc : CatR SC w nv ev rv iv c) (hm : mayG c o G = 0) (hk : o.kind = 2) :
    Calls Tryz.prog 18 #[.pointer (some ⟨B, 0, none⟩), c.arg nv ev rv iv, o.args] w (RDoPost S B G c o w) := by
  have HGR := Lib.hid h; have HI := Lib.hid hG; have HC := Lib.hid hc
  obtain ⟨kind, id, typ, from_, to_, name, v, cascade⟩ := o
  subst hk
  have HM := Lib.hid hm
  obtain ⟨na, nc, ea, ec, ra, rc, ia, ic, rfl, rfl, rfl, rfl⟩ := hc.slices
  have HW := Lib.hid (show ∀ o1 o2, Grow w ((w.alloc o1).alloc o2) from fun o1 o2 => ((Grow.rfl' w).allocd o1).allocd o2)
  have HBX := Lib.hid (boxes w (.slice na c.nodes.length nc) (.slice ea c.edges.length ec) (.slice ra c.rules.length rc) (.slice ia c.indexes.length ic) c ⟨2, id, typ, from_, to_, name, v, cascade⟩)
  clear h hc hG hm
  go_enter Tryz.func18, Tryz.ntmps18
  go_wp2_with fail
  refine (refMay S SC B G _ _ _ _ c ⟨2, id, typ, from_, to_, name, v, cascade⟩ _ (HGR.out.rd.grow (HW.out _ _)) HI.out (HC.out.grow (HW.out _ _))).mono ?_
  rintro e w2 ⟨rfl, hg⟩
  rw [HM.out]
  have HG2 := Lib.hid ((HW.out _ _).step hg)
  have HOP2 := Lib.hid (HBX.out.2.grow hg)
  obtain ⟨hl2, c0, c1, c2, c3, c4, c5, c6, c7, c8, c9⟩ := HOP2.out.at
  have HGR2 := Lib.hid (HGR.out.cut.grow HG2.out)
  have HLN := Lib.hid HI.out.items
  clear hg
  have hN := may_has2 HM.out
  have HNN := Lib.hid hN
  clear hN
  go_wp2_with fail
  refine (refAt _ B G id _ HGR2.out.rd (by have := HLN.out; omega)).mono ?_
  rintro e w3 ⟨v3, ob3, rfl, ho3, hob3, hg3⟩
  have HG3 := Lib.hid hg3; have HO3 := Lib.hid ho3; have HOB3 := Lib.hid hob3
  obtain ⟨o3, co3, rfl, hco3, hco3'⟩ := ho3.isSlice
  have HUP := Lib.hid (atG_up (id := id) HI.out.edges)
  have HHAS := Lib.hid (atG_has (G := G) (id := id))
  have HEND := Lib.hid (atG_end (G := G) (id := id) HI.out.edges)
  have HREAD := Lib.hid (ho3.readsM)
  have HOP3 := Lib.hid (HOP2.out.grow hg3)
  have HGR3 := Lib.hid ((HGR2.out.grow hg3).sub (S' := fun b => S b ∨ w2.heap.size ≤ b) (fun b hb => .inl hb.1))
  have HNB := Lib.hid (show ∀ b, ob3 = some b → ¬ b = B from fun b hb e => by have h1 := hob3 b hb; have h2 := HGR2.out.rootLt; omega)
  have HBOP := Lib.hid (show ¬ w.heap.size + 1 = B from fun e => by have h1 := HGR.out.rootLt; omega)
  generalize hL : atG G id = L at *
  clear hL ho3 hob3 hg3 c0 c1 c2 c3 c4 c5 c6 c7 c8 c9 hl2
  unfold maxLen at hco3'
  go_wp2
  go_loopg [11] L.length (fun g i wr => ∃ j : Nat, j ≤ L.length ∧ g = L.length - j ∧ i = .int .i64 j ∧ GraphOk 86 (fun b => S b ∨ w2.heap.size ≤ b) wr B (cutTo G (L.take j)) ∧ Mod (fun b => b = B) w3 wr)
  case atStart => exact ⟨0, by omega, by omega, rfl, by rw [List.take_zero, cutTo_nil]; exact HGR3.out, Mod.rfl' _ _⟩
  case round =>
    obtain ⟨j, hj, rfl, rfl, hgr, hmd⟩ := hrel
    have HGRJ := Lib.hid hgr; have HMJ := Lib.hid hmd
    clear hgr hmd
    by_cases hjl : j < L.length
    · obtain ⟨bl, ol, ho, hcr⟩ := HREAD.out j L[j] (List.getElem?_eq_getElem hjl)
      cases ho
      obtain ⟨hbl, hcj⟩ := hcr _ _ HMJ.out HNB.out
      have hE := cutTo_has HUP.out (HHAS.out L[j] (List.getElem_mem hjl)) hjl rfl
      have HCS := Lib.hid (cutTo_step (G := G) (L := L) hjl)
      have HSL := Lib.hid (cutTo_sorted (L := L.take j) HI.out.edges)
      have HCL := Lib.hid (cutTo_len (G := G) (L := L.take j))
      generalize L[j] = y at *
      go_wp2_with fail
      refine (refCut _ B _ y _ HGRJ.out (by have h1 := HCL.out; have h2 := HLN.out; omega) HSL.out hE).mono ?_
      rintro e w4 ⟨⟨u, rfl⟩, hgr, hmd⟩
      have HGR4 := Lib.hid (hgr.sub (S' := fun b => S b ∨ w2.heap.size ≤ b) (fun b hb => hb.elim (fun h => h) (fun h => .inr (Nat.le_trans (Nat.le_trans HG3.out.size HMJ.out.size) h))))
      have HM4 := Lib.hid (HMJ.out.step hmd)
      clear hgr hmd hE hcj hcr
      go_wp2_with fail
      go_roundg (L.length - (j + 1))
      case measure => omega
      case rel => exact ⟨j + 1, by omega, rfl, by go_num, by rw [HCS.out]; exact HGR4.out, HM4.out⟩
    · have hjj : L.take j = L := List.take_of_length_le (by omega)
      rw [hjj, HEND.out] at HGRJ
      have HM3 := Lib.hid ((Mod.of_grow (F := fun b => b = B) HG3.out).step HMJ.out)
      obtain ⟨hl4, c0, c1, -⟩ := (HOP3.out.mod HMJ.out HBOP.out).at
      clear hjj
      obtain ⟨gnv, gev, R, on, oe, h1, h2, h3, h4, h5, h6, h7, h8⟩ := HGRJ.out.parts (by decide) (by decide)
      have H2 := Lib.hid h2; have H3 := Lib.hid h3; have H4 := Lib.hid h4; have H5 := Lib.hid h5; have H6 := Lib.hid h6; have H7 := Lib.hid h7; have H8 := Lib.hid h8
      have HBW := Lib.hid h1
      have hBW : B < wr.heap.size := blk_lt h1
      obtain ⟨iP, hiP, hzP0, hzP1, hzP2⟩ := info_parts infoNode
      obtain ⟨k, x, hz, hkl, hx, hid⟩ := idxZ_some (f := fun x : PNode => x.id) HNN.out
      have HZ := Lib.hid hz; have HX := Lib.hid hx; have HXI := Lib.hid hid
      clear h1 h2 h3 h4 h5 h6 h7 h8 hz hx hid
      go_wp2_with fail
      refine (refNode _ B _ id _ HGRJ.out.rd).mono ?_
      rintro e w5 ⟨rfl, hw5⟩
      rw [hw5, HZ.out]
      clear hw5 w5
      have HROOT := Lib.hid HGR2.out.root.1
      have E2 := Lib.hid (show (⟨G.nodes.take k ++ G.nodes.drop (k + 1), G.edges.filter fun x => !atE x id, G.next⟩ : PGraph) = doG ⟨2, id, typ, from_, to_, name, v, cascade⟩ G by
        rw [← filter_idx (fun x : PNode => x.id) HI.out.nodes HX.out HXI.out]; rfl)
      clear HGR HI HC HW HBX HOP2 HOP3 HREAD HHAS HEND HUP HO3 HOB3 HNB HBOP HGR3 HGR2 HGRJ HMJ HNN HZ HX HXI HG3
      have H7 := Lib.hid (show OwnL wr 89 3 (RNode R wr) gnv G.nodes on from H7.out)
      obtain ⟨rows, hr1, hr2, hr3, hos⟩ := H7.out.rowLen
      have HR1 := Lib.hid hr1; have HR2 := Lib.hid hr2; have HR3 := Lib.hid hr3
      have hxl := hos.1
      obtain ⟨g, cap, cur, hnv, hog, hblk, hnc, hcm, hcs, htk⟩ : ∃ g cap, ∃ cur : Array Value, gnv = .slice (some ⟨g, 0, none⟩) G.nodes.length cap ∧ on = some g ∧ wr.heap[g]? = some (.cells cur 89 (0, 0)) ∧ G.nodes.length ≤ cap ∧ cap ≤ maxLen ∧ cur.size = cap * 3 ∧ cur.toList.take (G.nodes.length * 3) = rows.flatten := by
        rcases hos.2 with ⟨_, _, h, _⟩ | ⟨g, cap, cur, h1, h2, h3, h4, h5, h6, h7⟩
        · omega
        · exact ⟨g, cap, cur, h1, h2, h3, h4, h5, h6, h7⟩
      subst hnv
      have hgw : g < wr.heap.size := blk_lt hblk
      have hrd1 : ∀ w', Grow wr w' → Rd w' 3 (.slice (some ⟨g, 0, none⟩) k cap) k (rows.flatten.take (k * 3)) := fun w' hg => ⟨by rw [List.length_take, hxl]; have := Nat.mul_le_mul_right 3 (Nat.le_of_lt hkl); omega, _, _, rfl, .inr ⟨_, rfl, fun j u hu => by
        rw [Addr.add_lit, blk_cell ((hg.heapEq hgw).trans hblk), ← Array.getElem?_toList]
        rw [← htk, List.take_take, List.getElem?_take] at hu
        split at hu
        · simpa using hu
        · cases hu⟩⟩
      have hrd2 : ∀ w' o c, Grow wr w' → (cap = k + 1 ∨ o = (k + 1) * 3) → Rd w' 3 (.slice (some ⟨g, o, none⟩) (G.nodes.length - (k + 1)) c) (G.nodes.length - (k + 1)) (rows.flatten.drop ((k + 1) * 3)) := fun w' o c hg ho => ⟨by rw [List.length_drop, hxl, Nat.sub_mul], _, _, rfl, by
        rcases ho with ho | rfl
        · exact .inl (by omega)
        · exact .inr ⟨_, rfl, fun j u hu => by
            rw [Addr.add_lit, blk_cell ((hg.heapEq hgw).trans hblk), ← Array.getElem?_toList]
            rw [← htk, List.getElem?_drop, List.getElem?_take] at hu
            split at hu
            · exact hu
            · cases hu⟩⟩
      have HRD1 := Lib.hid hrd1; have HRD2 := Lib.hid hrd2
      have HOS0 := Lib.hid (OwnS.lit wr.drew #[] 89 3 0 (by unfold maxLen; omega) (by simp))
      have HG1 := Lib.hid (show ∀ o1, Grow wr (wr.drew.alloc o1) from fun o1 => ((Grow.rfl' wr).drewd).allocd o1)
      have HONE := Lib.hid (OwnL.one_flatN HR1.out HR3.out)
      have g0 : wr.cell? ⟨B, 0, none⟩ = some (.slice (some ⟨g, 0, none⟩) G.nodes.length cap) := by rw [blk_cell HBW.out]; rfl
      have f0 := blk_free HBW.out 0
      have hq1 : (0 : Int) ≤ (k : Int) + 1 := by omega
      have hq2 : (k : Int) ≤ (k : Int) + 1 := by omega
      have hq3 : (k : Int) + 1 ≤ (G.nodes.length : Int) := by omega
      have hq4 : ((k : Int) + 1).toNat = k + 1 := by omega
      have hq5 : (G.nodes.length : Int) ≤ (cap : Int) := by omega
      have hq6 : (k : Int) ≤ (cap : Int) := by omega
      have hq7 : IntKind.i64.wrap ((k : Int) + 1) = (k : Int) + 1 := by have := HLN.out; rw [IntKind.wrap_i64]; omega
      have HHOG := Lib.hid hog
      clear hr1 hr2 hr3 hos hxl hblk hcs htk hrd1 hrd2 hog
      unfold maxLen at hcm
      by_cases hce : cap = k + 1
      · have hnk : G.nodes.length = k + 1 := by omega
        have HRD3 := Lib.hid (show ∀ w', Grow wr w' → Rd w' 3 (.slice (some ⟨g, 0, none⟩) 0 0) 0 (rows.flatten.drop ((k + 1) * 3)) from fun w' hg => by
          have := HRD2.out w' 0 0 hg (.inl hce)
          rwa [hnk, Nat.sub_self] at this)
        subst hce
        go_wp2_with fail
        go_region_law (first | (refine step_append_S rfl (.tmp 102) (.tmp 108) 59 rfl 89 iP _ 3 48 Tryz.underlying59 hiP hzP0 hzP1 hzP2 rfl (by decide) (.slice (some ⟨wr.heap.size, 0, none⟩) 0 0) 0 [] (some wr.heap.size) (by rfl) HOS0.out (.slice (some ⟨g, 0, none⟩) k (k + 1)) (by rfl) k _ (HRD1.out _ (HG1.out _)) (fun u hu => HONE.out u (List.mem_of_mem_take hu)) (by have := HLN.out; unfold maxLen; omega) (by have := HLN.out; omega) ?_; intro v5 w5 o5 k1 k2 k3 k4; rw [Nat.zero_add, List.nil_append] at k1; obtain ⟨oa5, cap5, rfl, -, -⟩ := k1.isSlice; have K1 := Lib.hid k1; have K2 := Lib.hid ((HG1.out _).modd k2 (fun b hb => by cases hb; exact Nat.le_refl _)); have K3 := Lib.hid (ob_case k3 (HG1.out _).size (fun g hg => by cases hg; exact Nat.le_refl _)); have hb5 := (K2.out.heapEq hBW).trans HBW.out; have HB5 := Lib.hid hb5; have hB5 := blk_lt hb5; have q0 : w5.cell? ⟨B, 0, none⟩ = some (.slice (some ⟨g, 0, none⟩) G.nodes.length (k + 1)) := (blk_cell hb5 0).trans rfl; have qf := blk_free hb5 0; clear hb5 k1 k2 k3 k4) | (refine step_append_S rfl (.tmp 109) (.tmp 116) 59 rfl 89 iP _ 3 48 Tryz.underlying59 hiP hzP0 hzP1 hzP2 rfl (by decide) (.slice oa5 k cap5) k _ o5 (by rfl) K1.out (.slice (some ⟨g, 0, none⟩) 0 0) (by rfl) 0 _ (HRD3.out _ K2.out) (fun u hu => HONE.out u (List.mem_of_mem_drop hu)) (by have := HLN.out; unfold maxLen; omega) (by have := HLN.out; omega) ?_; intro v6 w6 o6 j1 j2 j3 j4; rw [show k + 0 = G.nodes.length - 1 by omega] at j1; obtain ⟨oa6, cap6, rfl, -, -⟩ := j1.isSlice; have J1 := Lib.hid j1; have J2 := Lib.hid (K2.out.modd j2 (fun b hb => K3.out b hb)); have J3 := Lib.hid (ob_case j3 K2.out.size K3.out); have hb6 := (J2.out.heapEq hBW).trans HBW.out; have HB6 := Lib.hid hb6; have hB6 := blk_lt hb6; have r0 : w6.cell? ⟨B, 0, none⟩ = some (.slice (some ⟨g, 0, none⟩) G.nodes.length (k + 1)) := (blk_cell hb6 0).trans rfl; have rf6 := blk_free hb6 0; clear hb6 j1 j2 j3 j4))
        all_goals
          go_wp2
          go_ret2
          have hcl := rcutN_close (G := ⟨G.nodes, G.edges.filter (fun x => !atE x id), G.next⟩) H2.out H3.out H4.out H5.out H6.out H8.out HR1.out HR2.out HR3.out hkl J1.out J2.out J3.out ((Mod.rfl' (fun b => b = B) w6).setd (p := ⟨B, 0, none⟩) (.inl rfl) _) (heap_setCell_same w6 B 0 _ _ _ HB6.out) hBW
          try rw [show G.nodes.length - 1 = k by omega] at hcl
          refine rdo_fin HM.out HG2.out ?_ (hcl.1.sub (fun b hb => hb.elim (fun h => h) (fun h => .inr (Nat.le_trans HM3.out.size h)))) ((HM3.out.step hcl.2).mono (fun b hb => hb ▸ HROOT.out)) E2.out
          rw [HM.out]; rfl
      · have hcd : ¬ cap = k + 1 := hce
        go_wp2_with fail
        go_region_law (first | (refine step_append_S rfl (.tmp 102) (.tmp 108) 59 rfl 89 iP _ 3 48 Tryz.underlying59 hiP hzP0 hzP1 hzP2 rfl (by decide) (.slice (some ⟨wr.heap.size, 0, none⟩) 0 0) 0 [] (some wr.heap.size) (by rfl) HOS0.out (.slice (some ⟨g, 0, none⟩) k cap) (by rfl) k _ (HRD1.out _ (HG1.out _)) (fun u hu => HONE.out u (List.mem_of_mem_take hu)) (by have := HLN.out; unfold maxLen; omega) (by have := HLN.out; omega) ?_; intro v5 w5 o5 k1 k2 k3 k4; rw [Nat.zero_add, List.nil_append] at k1; obtain ⟨oa5, cap5, rfl, -, -⟩ := k1.isSlice; have K1 := Lib.hid k1; have K2 := Lib.hid ((HG1.out _).modd k2 (fun b hb => by cases hb; exact Nat.le_refl _)); have K3 := Lib.hid (ob_case k3 (HG1.out _).size (fun g hg => by cases hg; exact Nat.le_refl _)); have hb5 := (K2.out.heapEq hBW).trans HBW.out; have HB5 := Lib.hid hb5; have hB5 := blk_lt hb5; have q0 : w5.cell? ⟨B, 0, none⟩ = some (.slice (some ⟨g, 0, none⟩) G.nodes.length cap) := (blk_cell hb5 0).trans rfl; have qf := blk_free hb5 0; clear hb5 k1 k2 k3 k4) | (refine step_append_S rfl (.tmp 109) (.tmp 116) 59 rfl 89 iP _ 3 48 Tryz.underlying59 hiP hzP0 hzP1 hzP2 rfl (by decide) (.slice oa5 k cap5) k _ o5 (by rfl) K1.out (.slice (some ⟨g, ((k + 1) * 3), none⟩) (G.nodes.length - (k + 1)) (cap - (k + 1))) (by rfl) (G.nodes.length - (k + 1)) _ (HRD2.out _ _ _ K2.out (.inr rfl)) (fun u hu => HONE.out u (List.mem_of_mem_drop hu)) (by have := HLN.out; unfold maxLen; omega) (by have := HLN.out; omega) ?_; intro v6 w6 o6 j1 j2 j3 j4; rw [show k + (G.nodes.length - (k + 1)) = G.nodes.length - 1 by omega] at j1; obtain ⟨oa6, cap6, rfl, -, -⟩ := j1.isSlice; have J1 := Lib.hid j1; have J2 := Lib.hid (K2.out.modd j2 (fun b hb => K3.out b hb)); have J3 := Lib.hid (ob_case j3 K2.out.size K3.out); have hb6 := (J2.out.heapEq hBW).trans HBW.out; have HB6 := Lib.hid hb6; have hB6 := blk_lt hb6; have r0 : w6.cell? ⟨B, 0, none⟩ = some (.slice (some ⟨g, 0, none⟩) G.nodes.length cap) := (blk_cell hb6 0).trans rfl; have rf6 := blk_free hb6 0; clear hb6 j1 j2 j3 j4))
        all_goals
          go_wp2
          go_ret2
          have hcl := rcutN_close (G := ⟨G.nodes, G.edges.filter (fun x => !atE x id), G.next⟩) H2.out H3.out H4.out H5.out H6.out H8.out HR1.out HR2.out HR3.out hkl J1.out J2.out J3.out ((Mod.rfl' (fun b => b = B) w6).setd (p := ⟨B, 0, none⟩) (.inl rfl) _) (heap_setCell_same w6 B 0 _ _ _ HB6.out) hBW
          try rw [show G.nodes.length - 1 = k by omega] at hcl
          refine rdo_fin HM.out HG2.out ?_ (hcl.1.sub (fun b hb => hb.elim (fun h => h) (fun h => .inr (Nat.le_trans HM3.out.size h)))) ((HM3.out.step hcl.2).mono (fun b hb => hb ▸ HROOT.out)) E2.out
          rw [HM.out]; rfl


set_option maxRecDepth 100000 in
set_option maxHeartbeats 4000000 in
theorem rdo3 (S SC : Nat → Prop) (B : Nat) (G : PGraph) (nv ev rv iv : Value) (c : PCat) (o : POp) (w : World) (h : GraphOk 86 S w B G) (hG : GInv G) (hc : CatR SC w nv ev rv iv c) (hm : mayG c o G = 0) (hk : o.kind = 3) :
    Calls Tryz.prog 18 #[.pointer (some ⟨B, 0, none⟩), c.arg nv ev rv iv, o.args] w (RDoPost S B G c o w) := by
  have HGR := Lib.hid h; have HI := Lib.hid hG; have HC := Lib.hid hc
  obtain ⟨kind, id, typ, from_, to_, name, v, cascade⟩ := o
  subst hk
  have HM := Lib.hid hm
  obtain ⟨na, nc, ea, ec, ra, rc, ia, ic, rfl, rfl, rfl, rfl⟩ := hc.slices
  have HW := Lib.hid (show ∀ o1 o2, Grow w ((w.alloc o1).alloc o2) from fun o1 o2 => ((Grow.rfl' w).allocd o1).allocd o2)
  have HBX := Lib.hid (boxes w (.slice na c.nodes.length nc) (.slice ea c.edges.length ec) (.slice ra c.rules.length rc) (.slice ia c.indexes.length ic) c ⟨3, id, typ, from_, to_, name, v, cascade⟩)
  clear h hc hG hm
  go_enter Tryz.func18, Tryz.ntmps18
  go_wp2_with fail
  refine (refMay S SC B G _ _ _ _ c ⟨3, id, typ, from_, to_, name, v, cascade⟩ _ (HGR.out.rd.grow (HW.out _ _)) HI.out (HC.out.grow (HW.out _ _))).mono ?_
  rintro e w2 ⟨rfl, hg⟩
  rw [HM.out]
  have HG2 := Lib.hid ((HW.out _ _).step hg)
  have HOP2 := Lib.hid (HBX.out.2.grow hg)
  obtain ⟨hl2, c0, c1, c2, c3, c4, c5, c6, c7, c8, c9⟩ := HOP2.out.at
  have HGR2 := Lib.hid (HGR.out.cut.grow HG2.out)
  have HLN := Lib.hid HI.out.items
  clear hg
  obtain ⟨gnv, gev, R, on, oe, h1, h2, h3, h4, h5, h6, h7, h8⟩ := HGR2.out.parts (by decide) (by decide)
  have H2 := Lib.hid h2; have H3 := Lib.hid h3; have H4 := Lib.hid h4; have H5 := Lib.hid h5; have H6 := Lib.hid h6; have H7 := Lib.hid h7; have H8 := Lib.hid h8
  have HBW := Lib.hid h1
  have hBW : B < w2.heap.size := blk_lt h1
  have g2 : w2.cell? ⟨B, 2, none⟩ = some (.int .i64 G.next) := by rw [blk_cell h1]; rfl
  clear h1 h2 h3 h4 h5 h6 h7 h8
  obtain ⟨iP, hiP, hzP0, hzP1, hzP2⟩ := info_parts infoEdge
  obtain ⟨hx1, hx2⟩ := full_no (may_full3 HM.out)
  have HX1 := Lib.hid hx1
  have hwn : IntKind.i64.wrap (G.next + 1) = G.next + 1 := by have := HI.out.next0; rw [IntKind.wrap_i64]; omega
  obtain ⟨oa, cap, hnv⟩ : ∃ oa cap, gev = .slice oa G.edges.length cap := by obtain ⟨_, _, _, h⟩ := H8.out; obtain ⟨oa, cap, h, _⟩ := h.isSlice; exact ⟨oa, cap, h⟩
  subst hnv
  have g0 : w2.cell? ⟨B, 1, none⟩ = some (.slice oa G.edges.length cap) := by rw [blk_cell HBW.out]; rfl
  have f0 := blk_free HBW.out 1
  obtain ⟨rows, hr1, hr2, hr3, hos⟩ := H8.out.rowLen
  have HOS := Lib.hid (show ∀ o1, OwnS (w2.drew.alloc o1) 91 5 (.slice oa G.edges.length cap) G.edges.length rows.flatten oe from fun o1 => hos.grow (((Grow.rfl' w2).drewd).allocd o1))
  have HR2 := Lib.hid hr2; have HR3 := Lib.hid hr3; have HR1 := Lib.hid hr1
  have HRD := Lib.hid (Rd.lit w2.drew #[.int .i64 G.next, .string typ, .int .i64 from_, .int .i64 to_, .slice none 0 0] 91 5 1 rfl)
  have HBK := Lib.hid (show ∀ o1, (w2.drew.alloc o1).heap[B]? = some (.cells #[gnv, .slice oa G.edges.length cap, .int .i64 G.next] 86 (0, 0)) from fun o1 => ((((Grow.rfl' w2).drewd).allocd o1).heapEq hBW).trans HBW.out)
  have HSS := Lib.hid (show ∀ w', Mod (fun b => b = B ∨ oe = some b) w2 w' → (w'.cell? ⟨w.heap.size + 1, 2, none⟩ = some (.string typ) ∧ w'.cell? ⟨w.heap.size + 1, 3, none⟩ = some (.int .i64 from_) ∧ w'.cell? ⟨w.heap.size + 1, 4, none⟩ = some (.int .i64 to_)) from fun w' hm => by
    have hb : ¬ (w.heap.size + 1 = B ∨ oe = some (w.heap.size + 1)) := fun e => e.elim (fun e => by have := H2.out.2; omega) (fun e => by have := (H6.out _ e).1.2; omega)
    obtain ⟨-, -, -, d2, d3, d4, -⟩ := (HOP2.out.mod hm hb).at
    exact ⟨d2, d3, d4⟩)
  clear hr1 hr2 hr3 hos hx1
  go_wp2_with fail
  refine wp_region_noPanic ?_
  refine wp_region_held_drew (S := (fun w' => w'.cell? ⟨w.heap.size + 1, 2, none⟩ = some (.string typ) ∧ w'.cell? ⟨w.heap.size + 1, 3, none⟩ = some (.int .i64 from_) ∧ w'.cell? ⟨w.heap.size + 1, 4, none⟩ = some (.int .i64 to_))) (by kernel_rfl) ?_ (fun hHeld => ?_)
  · exact HSS.out _ ((Mod.rfl' _ w2).drewd)
  refine' wpAnyH_take (i := 0) (oi := ?o1) (v := _) (by simp only [List.getElem?_toArray, List.getElem?_cons_zero]; rfl) (by kernel_rfl) (by kernel_rfl) (by kernel_rfl) (fun _ _ _ h => h) (Or.inl ⟨by rfl, ?y1⟩) (by assumption) ?r1
  case y1 =>
    intro wS hSw
    try dsimp only at hSw
    go_simp
    all_goals with_reducible rfl
  simp only [Act.put, List.setIfInBounds_toArray, List.set_cons_zero, List.set_cons_succ]
  refine' wpAnyH_take (i := 1) (oi := ?o2) (v := _) (by simp only [List.getElem?_toArray, List.getElem?_cons_succ, List.getElem?_cons_zero]; rfl) (by kernel_rfl) (by kernel_rfl) (by kernel_rfl) (fun _ _ _ h => h) (Or.inl ⟨by rfl, ?y2⟩) (by assumption) ?r2
  case y2 =>
    intro wS hSw
    try dsimp only at hSw
    go_simp
    all_goals with_reducible rfl
  simp only [Act.put, List.setIfInBounds_toArray, List.set_cons_zero, List.set_cons_succ]
  refine' wpAnyH_take (i := 2) (oi := ?o3) (v := _) (by simp only [List.getElem?_toArray, List.getElem?_cons_succ, List.getElem?_cons_zero]; rfl) (by kernel_rfl) (by kernel_rfl) (by kernel_rfl) (fun _ _ _ h => h) (Or.inl ⟨by rfl, ?y3⟩) (by assumption) ?r3
  case y3 =>
    intro wS hSw
    try dsimp only at hSw
    go_simp
    all_goals with_reducible rfl
  simp only [Act.put, List.setIfInBounds_toArray, List.set_cons_zero, List.set_cons_succ]
  refine' wpAnyH_take (i := 3) (oi := ?o4) (v := _) (by simp only [List.getElem?_toArray, List.getElem?_cons_succ, List.getElem?_cons_zero]; rfl) (by kernel_rfl) (by kernel_rfl) (by kernel_rfl) (fun _ _ _ h => h) (Or.inl ⟨by rfl, ?y4⟩) (by assumption) ?r4
  case y4 =>
    intro wS hSw
    try dsimp only at hSw
    go_simp
    all_goals with_reducible rfl
  simp only [Act.put, List.setIfInBounds_toArray, List.set_cons_zero, List.set_cons_succ]
  refine' wpAnyH_take (i := 5) (oi := ?o5) (v := _) (by simp only [List.getElem?_toArray, List.getElem?_cons_succ, List.getElem?_cons_zero]; rfl) (by kernel_rfl) (by kernel_rfl) (by kernel_rfl) (fun _ _ _ h => h) (Or.inl ⟨by rfl, ?y5⟩) (by assumption) ?r5
  case y5 =>
    intro wS hSw
    try dsimp only at hSw
    go_simp
    all_goals with_reducible rfl
  simp only [Act.put, List.setIfInBounds_toArray, List.set_cons_zero, List.set_cons_succ]
  refine' wpAnyH_take (i := 6) (oi := ?o6) (v := _) (by simp only [List.getElem?_toArray, List.getElem?_cons_succ, List.getElem?_cons_zero]; rfl) (by kernel_rfl) (by kernel_rfl) (by kernel_rfl) (fun _ _ _ h => h) (Or.inl ⟨by rfl, ?y6⟩) (by assumption) ?r6
  case y6 =>
    intro wS hSw
    try dsimp only at hSw
    go_simp
    all_goals with_reducible rfl
  simp only [Act.put, List.setIfInBounds_toArray, List.set_cons_zero, List.set_cons_succ]
  refine' wpAnyH_take (i := 7) (oi := ?o7) (v := _) (by simp only [List.getElem?_toArray, List.getElem?_cons_succ, List.getElem?_cons_zero]; rfl) (by kernel_rfl) (by kernel_rfl) (by kernel_rfl) (fun _ _ _ h => h) (Or.inl ⟨by rfl, ?y7⟩) (by assumption) ?r7
  case y7 =>
    intro wS hSw
    try dsimp only at hSw
    go_simp
    all_goals with_reducible rfl
  simp only [Act.put, List.setIfInBounds_toArray, List.set_cons_zero, List.set_cons_succ]
  refine' wpAnyH_take (i := 8) (oi := ?o8) (v := _) (by simp only [List.getElem?_toArray, List.getElem?_cons_succ, List.getElem?_cons_zero]; rfl) (by kernel_rfl) (by kernel_rfl) (by kernel_rfl) (fun _ _ _ h => h) (Or.inl ⟨by rfl, ?y8⟩) (by assumption) ?r8
  case y8 =>
    intro wS hSw
    try dsimp only at hSw
    go_simp
    all_goals with_reducible rfl
  simp only [Act.put, List.setIfInBounds_toArray, List.set_cons_zero, List.set_cons_succ]
  refine' wpAnyH_take (i := 9) (oi := ?o9) (v := _) (by simp only [List.getElem?_toArray, List.getElem?_cons_succ, List.getElem?_cons_zero]; rfl) (by kernel_rfl) (by kernel_rfl) (by kernel_rfl) (fun _ _ _ h => h) (Or.inl ⟨by rfl, ?y9⟩) (by assumption) ?r9
  case y9 =>
    intro wS hSw
    try dsimp only at hSw
    go_simp
    all_goals with_reducible rfl
  simp only [Act.put, List.setIfInBounds_toArray, List.set_cons_zero, List.set_cons_succ]
  refine' wpAnyH_take (i := 10) (oi := ?o10) (v := _) (by simp only [List.getElem?_toArray, List.getElem?_cons_succ, List.getElem?_cons_zero]; rfl) (by kernel_rfl) (by kernel_rfl) (by kernel_rfl) (fun _ _ _ h => h) (Or.inl ⟨by rfl, ?y10⟩) (by assumption) ?r10
  case y10 =>
    intro wS hSw
    try dsimp only at hSw
    go_simp
    all_goals with_reducible rfl
  simp only [Act.put, List.setIfInBounds_toArray, List.set_cons_zero, List.set_cons_succ]
  refine' wpAnyH_take (i := 11) (oi := ?o11) (v := _) (by simp only [List.getElem?_toArray, List.getElem?_cons_succ, List.getElem?_cons_zero]; rfl) (by kernel_rfl) (by kernel_rfl) (by kernel_rfl) (fun _ _ _ h => h) (Or.inl ⟨by rfl, ?y11⟩) (by assumption) ?r11
  case y11 =>
    intro wS hSw
    try dsimp only at hSw
    go_simp
    all_goals with_reducible rfl
  simp only [Act.put, List.setIfInBounds_toArray, List.set_cons_zero, List.set_cons_succ]
  refine' wpAnyH_take (i := 12) (oi := ?o12) (v := _) (by simp only [List.getElem?_toArray, List.getElem?_cons_succ, List.getElem?_cons_zero]; rfl) (by kernel_rfl) (by kernel_rfl) (by kernel_rfl) (fun _ _ _ h => h) (Or.inl ⟨by rfl, ?y12⟩) (by assumption) ?r12
  case y12 =>
    intro wS hSw
    try dsimp only at hSw
    go_simp
    all_goals with_reducible rfl
  simp only [Act.put, List.setIfInBounds_toArray, List.set_cons_zero, List.set_cons_succ]
  refine wpAnyH_ready (rs := [4, 13]) (by kernel_rfl) (by simp) ?_
  refine' AllReadyH.cons (o := ?o13) (by simp only [List.getElem?_toArray, List.getElem?_cons_succ, List.getElem?_cons_zero]; rfl) (fun K hK => ?s13) ?m13
  rotate_left
  · refine' AllReadyH.cons (o := ?o14) (by simp only [List.getElem?_toArray, List.getElem?_cons_succ, List.getElem?_cons_zero]; rfl) (fun K hK => ?s14) ?m14
    case m14 => exact AllReadyH.nil
    go_simp
    refine hK.out _ _ ?_ (fun hHeld => ?_)
    · exact HSS.out _ (((Mod.rfl' _ w2).drewd).allocd _)
    clear hK K
    try simp only [Act.put, List.setIfInBounds_toArray, List.set_cons_zero, List.set_cons_succ]
    refine wpAnyH_ready (rs := [4]) (by kernel_rfl) (by simp) ?_
    refine' AllReadyH.cons (o := ?o15) (by simp only [List.getElem?_toArray, List.getElem?_cons_succ, List.getElem?_cons_zero]; rfl) (fun K hK => ?s15) ?m15
    case m15 => exact AllReadyH.nil
    go_simp
    refine hK.out _ _ ?_ (fun hHeld => ?_)
    · exact HSS.out _ (((Mod.rfl' _ w2).drewd).allocd _)
    clear hK K
    try simp only [Act.put, List.setIfInBounds_toArray, List.set_cons_zero, List.set_cons_succ]
    refine wpAnyH_ready (rs := [14]) (by kernel_rfl) (by simp) ?_
    refine' AllReadyH.cons (o := ?o16) (by simp only [List.getElem?_toArray, List.getElem?_cons_succ, List.getElem?_cons_zero]; rfl) (fun K hK => ?s16) ?m16
    case m16 => exact AllReadyH.nil
    (refine step_append_S rfl (.tmp 59) (.tmp 68) 84 rfl 91 iP _ 5 64 Tryz.underlying84 hiP hzP0 hzP1 hzP2 rfl (by decide) (.slice oa G.edges.length cap) G.edges.length rows.flatten oe (by simp [Act.eval]) (HOS.out _) (.slice (some ⟨w2.heap.size, 0, none⟩) 1 1) (by simp [Act.eval]) 1 _ HRD.out (by intro u hu; simp only [List.mem_cons, List.not_mem_nil, or_false] at hu; rcases hu with rfl | rfl | rfl | rfl | rfl <;> rfl) (by have := HX1.out; unfold maxLen; omega) (by have := HX1.out; omega) ?_; intro v5 w5 on5 k1 k2 k3 k4; obtain ⟨oa5, cap5, rfl, -, -⟩ := k1.isSlice; have K1 := Lib.hid k1; have K2 := Lib.hid k2; have K3 := Lib.hid k3; have HM5 := Lib.hid ((Mod.of_grow (F := fun b => b = B ∨ oe = some b) (((Grow.rfl' w2).drewd).allocd _)).step (k2.mono (fun b hb => .inr hb))); have hb5 := (k2.block B (Nat.lt_of_lt_of_le hBW ((((Grow.rfl' w2).drewd).allocd _).size)) (fun hh => (H6.out B hh).2.2.1 rfl)).trans (HBK.out _); have HB5 := Lib.hid hb5; have hB5 := blk_lt hb5; have q0 : w5.cell? ⟨B, 1, none⟩ = some (.slice oa G.edges.length cap) := (blk_cell hb5 1).trans rfl; have qf := blk_free hb5 1; have q2 : w5.cell? ⟨B, 2, none⟩ = some (.int .i64 G.next) := (blk_cell hb5 2).trans rfl; have qf2 := blk_free hb5 2; clear hb5 k1 k2 k3 k4)
    refine hK.out _ _ ?_ (fun hHeld => ?_)
    · exact HSS.out _ HM5.out
    clear hK K
    try simp only [Act.put, List.setIfInBounds_toArray, List.set_cons_zero, List.set_cons_succ]
    refine' wpAnyH_take (i := 15) (oi := ?o17) (v := _) (by simp only [List.getElem?_toArray, List.getElem?_cons_succ, List.getElem?_cons_zero]; rfl) (by kernel_rfl) (by kernel_rfl) (by kernel_rfl) (fun _ _ _ h => h) (Or.inl ⟨by rfl, ?y17⟩) (by assumption) ?r17
    case y17 =>
      intro wS hSw
      try dsimp only at hSw
      go_simp
      all_goals with_reducible rfl
    simp only [Act.put, List.setIfInBounds_toArray, List.set_cons_zero, List.set_cons_succ]
    refine' wpAnyH_take (i := 16) (oi := ?o18) (v := _) (by simp only [List.getElem?_toArray, List.getElem?_cons_succ, List.getElem?_cons_zero]; rfl) (by kernel_rfl) (by kernel_rfl) (by kernel_rfl) (fun _ _ _ h => h) (Or.inl ⟨by rfl, ?y18⟩) (by assumption) ?r18
    case y18 =>
      intro wS hSw
      try dsimp only at hSw
      go_simp
      all_goals with_reducible rfl
    simp only [Act.put, List.setIfInBounds_toArray, List.set_cons_zero, List.set_cons_succ]
    refine wpAnyH_ready (rs := [17]) (by kernel_rfl) (by simp) ?_
    refine' AllReadyH.cons (o := ?o19) (by simp only [List.getElem?_toArray, List.getElem?_cons_succ, List.getElem?_cons_zero]; rfl) (fun K hK => ?s19) ?m19
    case m19 => exact AllReadyH.nil
    go_simp
    refine hK.out _ _ ?_ (fun hHeld => ?_)
    · exact HSS.out _ (HM5.out.setd (p := ⟨B, 1, none⟩) (.inl (.inl rfl)) _)
    clear hK K
    try simp only [Act.put, List.setIfInBounds_toArray, List.set_cons_zero, List.set_cons_succ]
    refine wpAnyH_done (by kernel_rfl) ?_ _
    refine NoPanic.normal ?_
    have HB6 := Lib.hid (show (w5.setCell ⟨B, 1, none⟩ (.slice oa5 (G.edges.length + 1) cap5)).heap[B]? = some (.cells #[gnv, .slice oa5 (G.edges.length + 1) cap5, .int .i64 G.next] 86 (0, 0)) from heap_setCell_same w5 B 1 _ _ _ HB5.out)
    go_wp2
    go_ret2
    have hcl := raddE_close (o := ⟨3, id, typ, from_, to_, name, v, cascade⟩) H2.out H3.out H4.out H5.out H6.out H7.out HR1.out HR3.out (Mod.of_grow (Grow.drewd (Grow.rfl' w2) |>.allocd _)) K1.out K2.out K3.out (((Mod.rfl' (fun b => b = B) w5).setd (p := ⟨B, 1, none⟩) (.inl rfl) _).setd (p := ⟨B, 2, none⟩) (.inl rfl) _) (heap_setCell_same _ B 2 _ _ _ HB6.out) hBW
    refine rdo_fin HM.out HG2.out ?_ (hcl.1.sub (fun b hb => hb.imp (fun h => h.1) (fun h => h))) (hcl.2.mono (fun b hb => hb.1))
    rw [HM.out]; rfl
  go_simp
  refine hK.out _ _ ?_ (fun hHeld => ?_)
  · exact HSS.out _ ((Mod.rfl' _ w2).drewd)
  clear hK K
  try simp only [Act.put, List.setIfInBounds_toArray, List.set_cons_zero, List.set_cons_succ]
  refine wpAnyH_ready (rs := [13]) (by kernel_rfl) (by simp) ?_
  refine' AllReadyH.cons (o := ?o20) (by simp only [List.getElem?_toArray, List.getElem?_cons_succ, List.getElem?_cons_zero]; rfl) (fun K hK => ?s20) ?m20
  case m20 => exact AllReadyH.nil
  go_simp
  refine hK.out _ _ ?_ (fun hHeld => ?_)
  · exact HSS.out _ (((Mod.rfl' _ w2).drewd).allocd _)
  clear hK K
  try simp only [Act.put, List.setIfInBounds_toArray, List.set_cons_zero, List.set_cons_succ]
  refine wpAnyH_ready (rs := [14]) (by kernel_rfl) (by simp) ?_
  refine' AllReadyH.cons (o := ?o21) (by simp only [List.getElem?_toArray, List.getElem?_cons_succ, List.getElem?_cons_zero]; rfl) (fun K hK => ?s21) ?m21
  case m21 => exact AllReadyH.nil
  (refine step_append_S rfl (.tmp 59) (.tmp 68) 84 rfl 91 iP _ 5 64 Tryz.underlying84 hiP hzP0 hzP1 hzP2 rfl (by decide) (.slice oa G.edges.length cap) G.edges.length rows.flatten oe (by simp [Act.eval]) (HOS.out _) (.slice (some ⟨w2.heap.size, 0, none⟩) 1 1) (by simp [Act.eval]) 1 _ HRD.out (by intro u hu; simp only [List.mem_cons, List.not_mem_nil, or_false] at hu; rcases hu with rfl | rfl | rfl | rfl | rfl <;> rfl) (by have := HX1.out; unfold maxLen; omega) (by have := HX1.out; omega) ?_; intro v5 w5 on5 k1 k2 k3 k4; obtain ⟨oa5, cap5, rfl, -, -⟩ := k1.isSlice; have K1 := Lib.hid k1; have K2 := Lib.hid k2; have K3 := Lib.hid k3; have HM5 := Lib.hid ((Mod.of_grow (F := fun b => b = B ∨ oe = some b) (((Grow.rfl' w2).drewd).allocd _)).step (k2.mono (fun b hb => .inr hb))); have hb5 := (k2.block B (Nat.lt_of_lt_of_le hBW ((((Grow.rfl' w2).drewd).allocd _).size)) (fun hh => (H6.out B hh).2.2.1 rfl)).trans (HBK.out _); have HB5 := Lib.hid hb5; have hB5 := blk_lt hb5; have q0 : w5.cell? ⟨B, 1, none⟩ = some (.slice oa G.edges.length cap) := (blk_cell hb5 1).trans rfl; have qf := blk_free hb5 1; have q2 : w5.cell? ⟨B, 2, none⟩ = some (.int .i64 G.next) := (blk_cell hb5 2).trans rfl; have qf2 := blk_free hb5 2; clear hb5 k1 k2 k3 k4)
  refine hK.out _ _ ?_ (fun hHeld => ?_)
  · exact HSS.out _ HM5.out
  clear hK K
  try simp only [Act.put, List.setIfInBounds_toArray, List.set_cons_zero, List.set_cons_succ]
  refine' wpAnyH_take (i := 15) (oi := ?o22) (v := _) (by simp only [List.getElem?_toArray, List.getElem?_cons_succ, List.getElem?_cons_zero]; rfl) (by kernel_rfl) (by kernel_rfl) (by kernel_rfl) (fun _ _ _ h => h) (Or.inl ⟨by rfl, ?y22⟩) (by assumption) ?r22
  case y22 =>
    intro wS hSw
    try dsimp only at hSw
    go_simp
    all_goals with_reducible rfl
  simp only [Act.put, List.setIfInBounds_toArray, List.set_cons_zero, List.set_cons_succ]
  refine' wpAnyH_take (i := 16) (oi := ?o23) (v := _) (by simp only [List.getElem?_toArray, List.getElem?_cons_succ, List.getElem?_cons_zero]; rfl) (by kernel_rfl) (by kernel_rfl) (by kernel_rfl) (fun _ _ _ h => h) (Or.inl ⟨by rfl, ?y23⟩) (by assumption) ?r23
  case y23 =>
    intro wS hSw
    try dsimp only at hSw
    go_simp
    all_goals with_reducible rfl
  simp only [Act.put, List.setIfInBounds_toArray, List.set_cons_zero, List.set_cons_succ]
  refine wpAnyH_ready (rs := [17]) (by kernel_rfl) (by simp) ?_
  refine' AllReadyH.cons (o := ?o24) (by simp only [List.getElem?_toArray, List.getElem?_cons_succ, List.getElem?_cons_zero]; rfl) (fun K hK => ?s24) ?m24
  case m24 => exact AllReadyH.nil
  go_simp
  refine hK.out _ _ ?_ (fun hHeld => ?_)
  · exact HSS.out _ (HM5.out.setd (p := ⟨B, 1, none⟩) (.inl (.inl rfl)) _)
  clear hK K
  try simp only [Act.put, List.setIfInBounds_toArray, List.set_cons_zero, List.set_cons_succ]
  refine wpAnyH_done (by kernel_rfl) ?_ _
  refine NoPanic.normal ?_
  have HB6 := Lib.hid (show (w5.setCell ⟨B, 1, none⟩ (.slice oa5 (G.edges.length + 1) cap5)).heap[B]? = some (.cells #[gnv, .slice oa5 (G.edges.length + 1) cap5, .int .i64 G.next] 86 (0, 0)) from heap_setCell_same w5 B 1 _ _ _ HB5.out)
  go_wp2
  go_ret2
  have hcl := raddE_close (o := ⟨3, id, typ, from_, to_, name, v, cascade⟩) H2.out H3.out H4.out H5.out H6.out H7.out HR1.out HR3.out (Mod.of_grow (Grow.drewd (Grow.rfl' w2) |>.allocd _)) K1.out K2.out K3.out (((Mod.rfl' (fun b => b = B) w5).setd (p := ⟨B, 1, none⟩) (.inl rfl) _).setd (p := ⟨B, 2, none⟩) (.inl rfl) _) (heap_setCell_same _ B 2 _ _ _ HB6.out) hBW
  refine rdo_fin HM.out HG2.out ?_ (hcl.1.sub (fun b hb => hb.imp (fun h => h.1) (fun h => h))) (hcl.2.mono (fun b hb => hb.1))
  rw [HM.out]; rfl

set_option maxRecDepth 100000 in
set_option maxHeartbeats 4000000 in
theorem rdo4 (S SC : Nat → Prop) (B : Nat) (G : PGraph) (nv ev rv iv : Value) (c : PCat) (o : POp) (w : World) (h : GraphOk 86 S w B G) (hG : GInv G) (hc : CatR SC w nv ev rv iv c) (hm : mayG c o G = 0) (hk : o.kind = 4) :
    Calls Tryz.prog 18 #[.pointer (some ⟨B, 0, none⟩), c.arg nv ev rv iv, o.args] w (RDoPost S B G c o w) := by
  have HGR := Lib.hid h; have HI := Lib.hid hG; have HC := Lib.hid hc
  obtain ⟨kind, id, typ, from_, to_, name, v, cascade⟩ := o
  subst hk
  have HM := Lib.hid hm
  obtain ⟨na, nc, ea, ec, ra, rc, ia, ic, rfl, rfl, rfl, rfl⟩ := hc.slices
  have HW := Lib.hid (show ∀ o1 o2, Grow w ((w.alloc o1).alloc o2) from fun o1 o2 => ((Grow.rfl' w).allocd o1).allocd o2)
  have HBX := Lib.hid (boxes w (.slice na c.nodes.length nc) (.slice ea c.edges.length ec) (.slice ra c.rules.length rc) (.slice ia c.indexes.length ic) c ⟨4, id, typ, from_, to_, name, v, cascade⟩)
  clear h hc hG hm
  go_enter Tryz.func18, Tryz.ntmps18
  go_wp2_with fail
  refine (refMay S SC B G _ _ _ _ c ⟨4, id, typ, from_, to_, name, v, cascade⟩ _ (HGR.out.rd.grow (HW.out _ _)) HI.out (HC.out.grow (HW.out _ _))).mono ?_
  rintro e w2 ⟨rfl, hg⟩
  rw [HM.out]
  have HG2 := Lib.hid ((HW.out _ _).step hg)
  have HOP2 := Lib.hid (HBX.out.2.grow hg)
  obtain ⟨hl2, c0, c1, c2, c3, c4, c5, c6, c7, c8, c9⟩ := HOP2.out.at
  have HGR2 := Lib.hid (HGR.out.cut.grow HG2.out)
  have HLN := Lib.hid HI.out.items
  clear hg
  have hE := may_has4 HM.out
  go_wp2_with fail
  refine (refCut _ B G id _ HGR2.out (by have := HLN.out; omega) HI.out.edges hE).mono ?_
  rintro e w3 ⟨⟨u, rfl⟩, hgr, hmd⟩
  have HGR3 := Lib.hid hgr; have HMD := Lib.hid hmd
  clear hgr hmd c0 c1 c2 c3 c4 c5 c6 c7 c8 c9 hl2
  go_wp2
  go_ret2
  refine rdo_fin HM.out HG2.out ?_ (HGR3.out.sub (fun b hb => hb.imp (fun h => h.1) (fun h => h))) (HMD.out.mono (fun b hb => hb ▸ HGR2.out.root.1))
  rw [HM.out]; rfl


set_option maxRecDepth 100000 in
set_option maxHeartbeats 4000000 in
theorem rdo5 (S SC : Nat → Prop) (B : Nat) (G : PGraph) (nv ev rv iv : Value) (c : PCat) (o : POp) (w : World) (h : GraphOk 86 S w B G) (hG : GInv G) (hc : CatR SC w nv ev rv iv c) (hm : mayG c o G = 0) (hk : o.kind = 5) :
    Calls Tryz.prog 18 #[.pointer (some ⟨B, 0, none⟩), c.arg nv ev rv iv, o.args] w (RDoPost S B G c o w) := by
  have HGR := Lib.hid h; have HI := Lib.hid hG; have HC := Lib.hid hc
  obtain ⟨kind, id, typ, from_, to_, name, v, cascade⟩ := o
  subst hk
  have HM := Lib.hid hm
  obtain ⟨na, nc, ea, ec, ra, rc, ia, ic, rfl, rfl, rfl, rfl⟩ := hc.slices
  have HW := Lib.hid (show ∀ o1 o2, Grow w ((w.alloc o1).alloc o2) from fun o1 o2 => ((Grow.rfl' w).allocd o1).allocd o2)
  have HBX := Lib.hid (boxes w (.slice na c.nodes.length nc) (.slice ea c.edges.length ec) (.slice ra c.rules.length rc) (.slice ia c.indexes.length ic) c ⟨5, id, typ, from_, to_, name, v, cascade⟩)
  clear h hc hG hm
  go_enter Tryz.func18, Tryz.ntmps18
  go_wp2_with fail
  refine (refMay S SC B G _ _ _ _ c ⟨5, id, typ, from_, to_, name, v, cascade⟩ _ (HGR.out.rd.grow (HW.out _ _)) HI.out (HC.out.grow (HW.out _ _))).mono ?_
  rintro e w2 ⟨rfl, hg⟩
  rw [HM.out]
  have HG2 := Lib.hid ((HW.out _ _).step hg)
  have HOP2 := Lib.hid (HBX.out.2.grow hg)
  obtain ⟨hl2, c0, c1, c2, c3, c4, c5, c6, c7, c8, c9⟩ := HOP2.out.at
  have HGR2 := Lib.hid (HGR.out.cut.grow HG2.out)
  have HLN := Lib.hid HI.out.items
  clear hg
  obtain ⟨gnv, gev, R, on, oe, h1, h2, h3, h4, h5, h6, h7, h8⟩ := HGR2.out.parts (by decide) (by decide)
  have H2 := Lib.hid h2; have H3 := Lib.hid h3; have H4 := Lib.hid h4; have H5 := Lib.hid h5; have H6 := Lib.hid h6; have H7 := Lib.hid h7; have H8 := Lib.hid h8
  have HBW := Lib.hid h1
  have hBW : B < w2.heap.size := blk_lt h1
  have g2 : w2.cell? ⟨B, 2, none⟩ = some (.int .i64 G.next) := by rw [blk_cell h1]; rfl
  clear h1 h2 h3 h4 h5 h6 h7 h8
  obtain ⟨ps0, hps0⟩ := may_find5 HM.out
  have HPS0 := Lib.hid hps0
  clear hps0
  go_wp2_with fail
  refine (refNode _ B G id _ HGR2.out.rd).mono ?_
  rintro e w3 ⟨rfl, hw3⟩
  rw [hw3]
  clear hw3 w3
  cases hN : hasN G id
  · have HNN := Lib.hid hN
    have HEE := Lib.hid (show hasE G id = true by
      cases he : hasE G id
      · have := findP_no hN he; rw [HPS0.out] at this; cases this
      · rfl)
    rw [idxZ_none (f := fun x : PNode => x.id) hN]
    clear hN
    go_wp2_with fail
    refine (refEdge _ B G id _ HGR2.out.rd).mono ?_
    rintro e w3 ⟨rfl, hw3⟩
    rw [hw3]
    clear hw3 w3
    obtain ⟨i, x, hz, hkl, hx, hid⟩ := idxZ_some (f := fun x : PEdge => x.id) HEE.out
    rw [hz]
    have hil : i < G.edges.length := hkl
    have HX := Lib.hid hx; have HXI := Lib.hid hid
    obtain ⟨g, cap, hgv, hog⟩ := H8.out.sliceAt hil
    have HOG := Lib.hid hog
    subst hgv
    have HPA := Lib.hid (show PropsAt G on oe id (.pointer (some ⟨g, i * 5 + 4, none⟩)) from .inr (.inl ⟨HNN.out, HEE.out, i, x, g, HX.out, HXI.out, HOG.out, rfl⟩))
    rcases HPA.out.read HI.out H7.out H8.out with ⟨-, hf⟩ | ⟨g', k', ps, pv', hf, hl8, he, hon, hcell, hfz, hp⟩
    · cases hf
    simp only [Value.pointer.injEq, Option.some.injEq, Addr.mk.injEq, and_true] at he
    obtain ⟨rfl, rfl⟩ := he
    have HF := Lib.hid hf; have HPR := Lib.hid hp; have HL8 := Lib.hid hl8
    obtain ⟨pa, pc, rfl⟩ := hp.isSlice
    have hlt2 := cell_lt hcell
    have HCELL := Lib.hid hcell; have HFZ := Lib.hid hfz
    have g0 : w2.cell? ⟨B, 1, none⟩ = some (.slice (some ⟨g, 0, none⟩) G.edges.length cap) := by rw [blk_cell HBW.out]; rfl
    have hk0 : decide ((0 : Int) ≤ (i : Int)) = true := by simp
    clear hz hx hid hf hp hl8 hon hog
    have hgB : g ≠ B := (H6.out g HOG.out).2.2.1
    have hgX : w.heap.size + 1 ≠ g := by have := (H6.out g HOG.out).1.2; omega
    have HSS := Lib.hid (show ∀ w', Mod (fun b => b = g) w2 w' → (w'.cell? ⟨B, 1, none⟩ = some (.slice (some ⟨g, 0, none⟩) G.edges.length cap) ∧ w'.cell? ⟨w.heap.size + 1, 5, none⟩ = some (.string name) ∧ w'.cell? ⟨w.heap.size + 1, 6, none⟩ = some (.int .i64 v.kind) ∧ w'.cell? ⟨w.heap.size + 1, 7, none⟩ = some (.int .i64 v.n) ∧ w'.cell? ⟨w.heap.size + 1, 8, none⟩ = some (.string v.s)) from fun w' hm => by
      obtain ⟨-, -, -, -, -, -, d5, d6, d7, d8, -⟩ := (HOP2.out.mod hm hgX).at
      have hb' := (hm.block B hBW (fun e => hgB e.symm)).trans HBW.out
      exact ⟨by rw [blk_cell hb']; rfl, d5, d6, d7, d8⟩)
    have hcl2 := HCELL.out
    have hfz2 := HFZ.out
    go_wp2_with fail
    refine wp_region_noPanic ?_
    refine wp_region_held_drew (S := (fun w' => w'.cell? ⟨B, 1, none⟩ = some (.slice (some ⟨g, 0, none⟩) G.edges.length cap) ∧ w'.cell? ⟨w.heap.size + 1, 5, none⟩ = some (.string name) ∧ w'.cell? ⟨w.heap.size + 1, 6, none⟩ = some (.int .i64 v.kind) ∧ w'.cell? ⟨w.heap.size + 1, 7, none⟩ = some (.int .i64 v.n) ∧ w'.cell? ⟨w.heap.size + 1, 8, none⟩ = some (.string v.s))) (by kernel_rfl) ?_ (fun hHeld => ?_)
    · exact HSS.out _ ((Mod.rfl' _ w2).drewd)
    refine' wpAnyH_take (i := 0) (oi := ?o1) (v := _) (by simp only [List.getElem?_toArray, List.getElem?_cons_zero]; rfl) (by kernel_rfl) (by kernel_rfl) (by kernel_rfl) (fun _ _ _ h => h) (Or.inl ⟨by rfl, ?y1⟩) (by assumption) ?r1
    case y1 =>
      intro wS hSw
      try dsimp only at hSw
      go_simp
      all_goals with_reducible rfl
    simp only [Act.put, List.setIfInBounds_toArray, List.set_cons_zero, List.set_cons_succ]
    refine' wpAnyH_take (i := 1) (oi := ?o2) (v := _) (by simp only [List.getElem?_toArray, List.getElem?_cons_succ, List.getElem?_cons_zero]; rfl) (by kernel_rfl) (by kernel_rfl) (by kernel_rfl) (fun _ _ _ h => h) (Or.inl ⟨by rfl, ?y2⟩) (by assumption) ?r2
    case y2 =>
      intro wS hSw
      try dsimp only at hSw
      go_simp
      all_goals with_reducible rfl
    simp only [Act.put, List.setIfInBounds_toArray, List.set_cons_zero, List.set_cons_succ]
    refine' wpAnyH_take (i := 2) (oi := ?o3) (v := _) (by simp only [List.getElem?_toArray, List.getElem?_cons_succ, List.getElem?_cons_zero]; rfl) (by kernel_rfl) (by kernel_rfl) (by kernel_rfl) (fun _ _ _ h => h) (Or.inl ⟨by rfl, ?y3⟩) (by assumption) ?r3
    case y3 =>
      intro wS hSw
      try dsimp only at hSw
      go_simp
      all_goals with_reducible rfl
    simp only [Act.put, List.setIfInBounds_toArray, List.set_cons_zero, List.set_cons_succ]
    refine' wpAnyH_take (i := 3) (oi := ?o4) (v := _) (by simp only [List.getElem?_toArray, List.getElem?_cons_succ, List.getElem?_cons_zero]; rfl) (by kernel_rfl) (by kernel_rfl) (by kernel_rfl) (fun _ _ _ h => h) (Or.inl ⟨by rfl, ?y4⟩) (by assumption) ?r4
    case y4 =>
      intro wS hSw
      try dsimp only at hSw
      go_simp
      all_goals with_reducible rfl
    simp only [Act.put, List.setIfInBounds_toArray, List.set_cons_zero, List.set_cons_succ]
    refine' wpAnyH_take (i := 4) (oi := ?o5) (v := _) (by simp only [List.getElem?_toArray, List.getElem?_cons_succ, List.getElem?_cons_zero]; rfl) (by kernel_rfl) (by kernel_rfl) (by kernel_rfl) (fun _ _ _ h => h) (Or.inl ⟨by rfl, ?y5⟩) (by assumption) ?r5
    case y5 =>
      intro wS hSw
      try dsimp only at hSw
      go_simp
      all_goals with_reducible rfl
    simp only [Act.put, List.setIfInBounds_toArray, List.set_cons_zero, List.set_cons_succ]
    refine' wpAnyH_take (i := 5) (oi := ?o6) (v := _) (by simp only [List.getElem?_toArray, List.getElem?_cons_succ, List.getElem?_cons_zero]; rfl) (by kernel_rfl) (by kernel_rfl) (by kernel_rfl) (fun _ _ _ h => h) (Or.inl ⟨by rfl, ?y6⟩) (by assumption) ?r6
    case y6 =>
      intro wS hSw
      try dsimp only at hSw
      go_simp
      all_goals with_reducible rfl
    simp only [Act.put, List.setIfInBounds_toArray, List.set_cons_zero, List.set_cons_succ]
    refine' wpAnyH_take (i := 6) (oi := ?o7) (v := _) (by simp only [List.getElem?_toArray, List.getElem?_cons_succ, List.getElem?_cons_zero]; rfl) (by kernel_rfl) (by kernel_rfl) (by kernel_rfl) (fun _ _ _ h => h) (Or.inl ⟨by rfl, ?y7⟩) (by assumption) ?r7
    case y7 =>
      intro wS hSw
      try dsimp only at hSw
      go_simp
      all_goals with_reducible rfl
    simp only [Act.put, List.setIfInBounds_toArray, List.set_cons_zero, List.set_cons_succ]
    refine' wpAnyH_take (i := 7) (oi := ?o8) (v := _) (by simp only [List.getElem?_toArray, List.getElem?_cons_succ, List.getElem?_cons_zero]; rfl) (by kernel_rfl) (by kernel_rfl) (by kernel_rfl) (fun _ _ _ h => h) (Or.inl ⟨by rfl, ?y8⟩) (by assumption) ?r8
    case y8 =>
      intro wS hSw
      try dsimp only at hSw
      go_simp
      all_goals with_reducible rfl
    simp only [Act.put, List.setIfInBounds_toArray, List.set_cons_zero, List.set_cons_succ]
    refine' wpAnyH_take (i := 8) (oi := ?o9) (v := _) (by simp only [List.getElem?_toArray, List.getElem?_cons_succ, List.getElem?_cons_zero]; rfl) (by kernel_rfl) (by kernel_rfl) (by kernel_rfl) (fun _ _ _ h => h) (Or.inl ⟨by rfl, ?y9⟩) (by assumption) ?r9
    case y9 =>
      intro wS hSw
      try dsimp only at hSw
      go_simp
      all_goals with_reducible rfl
    simp only [Act.put, List.setIfInBounds_toArray, List.set_cons_zero, List.set_cons_succ]
    refine' wpAnyH_take (i := 9) (oi := ?o10) (v := _) (by simp only [List.getElem?_toArray, List.getElem?_cons_succ, List.getElem?_cons_zero]; rfl) (by kernel_rfl) (by kernel_rfl) (by kernel_rfl) (fun _ _ _ h => h) (Or.inl ⟨by rfl, ?y10⟩) (by assumption) ?r10
    case y10 =>
      intro wS hSw
      try dsimp only at hSw
      go_simp
      all_goals with_reducible rfl
    simp only [Act.put, List.setIfInBounds_toArray, List.set_cons_zero, List.set_cons_succ]
    refine' wpAnyH_take (i := 10) (oi := ?o11) (v := _) (by simp only [List.getElem?_toArray, List.getElem?_cons_succ, List.getElem?_cons_zero]; rfl) (by kernel_rfl) (by kernel_rfl) (by kernel_rfl) (fun _ _ _ h => h) (Or.inl ⟨by rfl, ?y11⟩) (by assumption) ?r11
    case y11 =>
      intro wS hSw
      try dsimp only at hSw
      go_simp
      all_goals with_reducible rfl
    simp only [Act.put, List.setIfInBounds_toArray, List.set_cons_zero, List.set_cons_succ]
    refine' wpAnyH_take (i := 11) (oi := ?o12) (v := _) (by simp only [List.getElem?_toArray, List.getElem?_cons_succ, List.getElem?_cons_zero]; rfl) (by kernel_rfl) (by kernel_rfl) (by kernel_rfl) (fun _ _ _ h => h) (Or.inl ⟨by rfl, ?y12⟩) (by assumption) ?r12
    case y12 =>
      intro wS hSw
      try dsimp only at hSw
      go_simp
      all_goals with_reducible rfl
    simp only [Act.put, List.setIfInBounds_toArray, List.set_cons_zero, List.set_cons_succ]
    refine' wpAnyH_take (i := 13) (oi := ?o13) (v := _) (by simp only [List.getElem?_toArray, List.getElem?_cons_succ, List.getElem?_cons_zero]; rfl) (by kernel_rfl) (by kernel_rfl) (by kernel_rfl) (fun _ _ _ h => h) (Or.inl ⟨by rfl, ?y13⟩) (by assumption) ?r13
    case y13 =>
      intro wS hSw
      try dsimp only at hSw
      go_simp
      all_goals with_reducible rfl
    simp only [Act.put, List.setIfInBounds_toArray, List.set_cons_zero, List.set_cons_succ]
    refine' wpAnyH_take (i := 14) (oi := ?o14) (v := _) (by simp only [List.getElem?_toArray, List.getElem?_cons_succ, List.getElem?_cons_zero]; rfl) (by kernel_rfl) (by kernel_rfl) (by kernel_rfl) (fun _ _ _ h => h) (Or.inl ⟨by rfl, ?y14⟩) (by assumption) ?r14
    case y14 =>
      intro wS hSw
      try dsimp only at hSw
      go_simp
      all_goals with_reducible rfl
    simp only [Act.put, List.setIfInBounds_toArray, List.set_cons_zero, List.set_cons_succ]
    refine' wpAnyH_take (i := 15) (oi := ?o15) (v := _) (by simp only [List.getElem?_toArray, List.getElem?_cons_succ, List.getElem?_cons_zero]; rfl) (by kernel_rfl) (by kernel_rfl) (by kernel_rfl) (fun _ _ _ h => h) (Or.inl ⟨by rfl, ?y15⟩) (by assumption) ?r15
    case y15 =>
      intro wS hSw
      try dsimp only at hSw
      go_simp
      all_goals with_reducible rfl
    simp only [Act.put, List.setIfInBounds_toArray, List.set_cons_zero, List.set_cons_succ]
    refine' wpAnyH_take (i := 16) (oi := ?o16) (v := _) (by simp only [List.getElem?_toArray, List.getElem?_cons_succ, List.getElem?_cons_zero]; rfl) (by kernel_rfl) (by kernel_rfl) (by kernel_rfl) (fun _ _ _ h => h) (Or.inl ⟨by rfl, ?y16⟩) (by assumption) ?r16
    case y16 =>
      intro wS hSw
      try dsimp only at hSw
      go_simp
      all_goals with_reducible rfl
    simp only [Act.put, List.setIfInBounds_toArray, List.set_cons_zero, List.set_cons_succ]
    refine wpAnyH_ready (rs := [12]) (by kernel_rfl) (by simp) ?_
    refine' AllReadyH.cons (o := ?o17) (by simp only [List.getElem?_toArray, List.getElem?_cons_succ, List.getElem?_cons_zero]; rfl) (fun K hK => ?s17) ?m17
    case m17 => exact AllReadyH.nil
    go_simp
    refine hK.out _ _ ?_ (fun hHeld => ?_)
    · exact HSS.out _ ((Mod.rfl' _ w2).drewd)
    clear hK K
    try simp only [Act.put, List.setIfInBounds_toArray, List.set_cons_zero, List.set_cons_succ]
    refine wpAnyH_ready (rs := [17]) (by kernel_rfl) (by simp) ?_
    refine' AllReadyH.cons (o := ?o18) (by simp only [List.getElem?_toArray, List.getElem?_cons_succ, List.getElem?_cons_zero]; rfl) (fun K hK => ?s18) ?m18
    case m18 => exact AllReadyH.nil
    go_simp
    go_at_call 50
    (refine (refSet R _ ps name v _ (HPR.out.grow ((Grow.rfl' w2).drewd)) (by have := HL8.out; omega)).mono ?_; rintro e w5 ⟨v5, rfl, hp5, hg5⟩; have HG5 := Lib.hid hg5; have HP5 := Lib.hid hp5; obtain ⟨a5, k5, rfl⟩ := hp5.isSlice; have hq5 : w5.cell? ⟨g, i * 5 + 4, none⟩ = some (.slice pa ps.length pc) := (hg5.cell (p := ⟨g, i * 5 + 4, none⟩) hlt2).trans HCELL.out; have hz5 : w5.frozen? ⟨g, i * 5 + 4, none⟩ = false := (World.frozen?_of_block (w := w2.drew) (hg5.heapEq hlt2)).trans HFZ.out; have hl5 := cell_lt hq5; clear hp5 hg5)
    go_wp2_with fail
    refine hK.out _ _ ?_ (fun hHeld => ?_)
    · exact HSS.out _ (Mod.of_grow (((Grow.rfl' w2).drewd).step HG5.out))
    clear hK K
    try simp only [Act.put, List.setIfInBounds_toArray, List.set_cons_zero, List.set_cons_succ]
    refine' wpAnyH_take (i := 18) (oi := ?o19) (v := _) (by simp only [List.getElem?_toArray, List.getElem?_cons_succ, List.getElem?_cons_zero]; rfl) (by kernel_rfl) (by kernel_rfl) (by kernel_rfl) (fun _ _ _ h => h) (Or.inl ⟨by rfl, ?y19⟩) (by assumption) ?r19
    case y19 =>
      intro wS hSw
      try dsimp only at hSw
      go_simp
      all_goals with_reducible rfl
    simp only [Act.put, List.setIfInBounds_toArray, List.set_cons_zero, List.set_cons_succ]
    refine' wpAnyH_take (i := 19) (oi := ?o20) (v := _) (by simp only [List.getElem?_toArray, List.getElem?_cons_succ, List.getElem?_cons_zero]; rfl) (by kernel_rfl) (by kernel_rfl) (by kernel_rfl) (fun _ _ _ h => h) (Or.inl ⟨by rfl, ?y20⟩) (by assumption) ?r20
    case y20 =>
      intro wS hSw
      try dsimp only at hSw
      go_simp
      all_goals with_reducible rfl
    simp only [Act.put, List.setIfInBounds_toArray, List.set_cons_zero, List.set_cons_succ]
    refine wpAnyH_ready (rs := [20]) (by kernel_rfl) (by simp) ?_
    refine' AllReadyH.cons (o := ?o21) (by simp only [List.getElem?_toArray, List.getElem?_cons_succ, List.getElem?_cons_zero]; rfl) (fun K hK => ?s21) ?m21
    case m21 => exact AllReadyH.nil
    go_simp
    refine hK.out _ _ ?_ (fun hHeld => ?_)
    · exact HSS.out _ ((Mod.of_grow (F := fun b => b = g) (((Grow.rfl' w2).drewd).step HG5.out)).setd (p := ⟨g, i * 5 + 4, none⟩) (.inl rfl) _)
    clear hK K
    try simp only [Act.put, List.setIfInBounds_toArray, List.set_cons_zero, List.set_cons_succ]
    refine wpAnyH_done (by kernel_rfl) ?_ _
    refine NoPanic.normal ?_
    go_wp2
    go_ret2
    have hcl := setProp_close (o := ⟨5, id, typ, from_, to_, name, v, cascade⟩) HI.out HBW.out H2.out H3.out H4.out H5.out H6.out H7.out H8.out HPA.out HF.out (((Grow.rfl' w2).drewd).step HG5.out) (HP5.out.sub (fun b hb => hb))
    refine rdo_fin HM.out HG2.out ?_ (hcl.1.sub (fun b hb => hb.imp (fun h => h.1) (fun h => h))) (hcl.2.mono (fun b hb => hb.1))
    rw [HM.out]; rfl
  · have HNN := Lib.hid hN
    obtain ⟨i, x, hz, hkl, hx, hid⟩ := idxZ_some (f := fun x : PNode => x.id) hN
    clear hN
    rw [hz]
    have hil : i < G.nodes.length := hkl
    have HX := Lib.hid hx; have HXI := Lib.hid hid
    obtain ⟨g, cap, hgv, hog⟩ := H7.out.sliceAt hil
    have HOG := Lib.hid hog
    subst hgv
    have HPA := Lib.hid (show PropsAt G on oe id (.pointer (some ⟨g, i * 3 + 2, none⟩)) from .inl ⟨HNN.out, i, x, g, HX.out, HXI.out, HOG.out, rfl⟩)
    rcases HPA.out.read HI.out H7.out H8.out with ⟨-, hf⟩ | ⟨g', k', ps, pv', hf, hl8, he, hon, hcell, hfz, hp⟩
    · cases hf
    simp only [Value.pointer.injEq, Option.some.injEq, Addr.mk.injEq, and_true] at he
    obtain ⟨rfl, rfl⟩ := he
    have HF := Lib.hid hf; have HPR := Lib.hid hp; have HL8 := Lib.hid hl8
    obtain ⟨pa, pc, rfl⟩ := hp.isSlice
    have hlt2 := cell_lt hcell
    have HCELL := Lib.hid hcell; have HFZ := Lib.hid hfz
    have g0 : w2.cell? ⟨B, 0, none⟩ = some (.slice (some ⟨g, 0, none⟩) G.nodes.length cap) := by rw [blk_cell HBW.out]; rfl
    have hk0 : decide ((0 : Int) ≤ (i : Int)) = true := by simp
    clear hz hx hid hf hp hl8 hon hog
    have hgB : g ≠ B := (H5.out g HOG.out).2.2.1
    have hgX : w.heap.size + 1 ≠ g := by have := (H5.out g HOG.out).1.2; omega
    have HSS := Lib.hid (show ∀ w', Mod (fun b => b = g) w2 w' → (w'.cell? ⟨B, 0, none⟩ = some (.slice (some ⟨g, 0, none⟩) G.nodes.length cap) ∧ w'.cell? ⟨w.heap.size + 1, 5, none⟩ = some (.string name) ∧ w'.cell? ⟨w.heap.size + 1, 6, none⟩ = some (.int .i64 v.kind) ∧ w'.cell? ⟨w.heap.size + 1, 7, none⟩ = some (.int .i64 v.n) ∧ w'.cell? ⟨w.heap.size + 1, 8, none⟩ = some (.string v.s)) from fun w' hm => by
      obtain ⟨-, -, -, -, -, -, d5, d6, d7, d8, -⟩ := (HOP2.out.mod hm hgX).at
      have hb' := (hm.block B hBW (fun e => hgB e.symm)).trans HBW.out
      exact ⟨by rw [blk_cell hb']; rfl, d5, d6, d7, d8⟩)
    have hcl2 := HCELL.out
    have hfz2 := HFZ.out
    go_wp2_with fail
    refine wp_region_noPanic ?_
    refine wp_region_held_drew (S := (fun w' => w'.cell? ⟨B, 0, none⟩ = some (.slice (some ⟨g, 0, none⟩) G.nodes.length cap) ∧ w'.cell? ⟨w.heap.size + 1, 5, none⟩ = some (.string name) ∧ w'.cell? ⟨w.heap.size + 1, 6, none⟩ = some (.int .i64 v.kind) ∧ w'.cell? ⟨w.heap.size + 1, 7, none⟩ = some (.int .i64 v.n) ∧ w'.cell? ⟨w.heap.size + 1, 8, none⟩ = some (.string v.s))) (by kernel_rfl) ?_ (fun hHeld => ?_)
    · exact HSS.out _ ((Mod.rfl' _ w2).drewd)
    refine' wpAnyH_take (i := 0) (oi := ?o22) (v := _) (by simp only [List.getElem?_toArray, List.getElem?_cons_zero]; rfl) (by kernel_rfl) (by kernel_rfl) (by kernel_rfl) (fun _ _ _ h => h) (Or.inl ⟨by rfl, ?y22⟩) (by assumption) ?r22
    case y22 =>
      intro wS hSw
      try dsimp only at hSw
      go_simp
      all_goals with_reducible rfl
    simp only [Act.put, List.setIfInBounds_toArray, List.set_cons_zero, List.set_cons_succ]
    refine' wpAnyH_take (i := 1) (oi := ?o23) (v := _) (by simp only [List.getElem?_toArray, List.getElem?_cons_succ, List.getElem?_cons_zero]; rfl) (by kernel_rfl) (by kernel_rfl) (by kernel_rfl) (fun _ _ _ h => h) (Or.inl ⟨by rfl, ?y23⟩) (by assumption) ?r23
    case y23 =>
      intro wS hSw
      try dsimp only at hSw
      go_simp
      all_goals with_reducible rfl
    simp only [Act.put, List.setIfInBounds_toArray, List.set_cons_zero, List.set_cons_succ]
    refine' wpAnyH_take (i := 2) (oi := ?o24) (v := _) (by simp only [List.getElem?_toArray, List.getElem?_cons_succ, List.getElem?_cons_zero]; rfl) (by kernel_rfl) (by kernel_rfl) (by kernel_rfl) (fun _ _ _ h => h) (Or.inl ⟨by rfl, ?y24⟩) (by assumption) ?r24
    case y24 =>
      intro wS hSw
      try dsimp only at hSw
      go_simp
      all_goals with_reducible rfl
    simp only [Act.put, List.setIfInBounds_toArray, List.set_cons_zero, List.set_cons_succ]
    refine' wpAnyH_take (i := 3) (oi := ?o25) (v := _) (by simp only [List.getElem?_toArray, List.getElem?_cons_succ, List.getElem?_cons_zero]; rfl) (by kernel_rfl) (by kernel_rfl) (by kernel_rfl) (fun _ _ _ h => h) (Or.inl ⟨by rfl, ?y25⟩) (by assumption) ?r25
    case y25 =>
      intro wS hSw
      try dsimp only at hSw
      go_simp
      all_goals with_reducible rfl
    simp only [Act.put, List.setIfInBounds_toArray, List.set_cons_zero, List.set_cons_succ]
    refine' wpAnyH_take (i := 4) (oi := ?o26) (v := _) (by simp only [List.getElem?_toArray, List.getElem?_cons_succ, List.getElem?_cons_zero]; rfl) (by kernel_rfl) (by kernel_rfl) (by kernel_rfl) (fun _ _ _ h => h) (Or.inl ⟨by rfl, ?y26⟩) (by assumption) ?r26
    case y26 =>
      intro wS hSw
      try dsimp only at hSw
      go_simp
      all_goals with_reducible rfl
    simp only [Act.put, List.setIfInBounds_toArray, List.set_cons_zero, List.set_cons_succ]
    refine' wpAnyH_take (i := 5) (oi := ?o27) (v := _) (by simp only [List.getElem?_toArray, List.getElem?_cons_succ, List.getElem?_cons_zero]; rfl) (by kernel_rfl) (by kernel_rfl) (by kernel_rfl) (fun _ _ _ h => h) (Or.inl ⟨by rfl, ?y27⟩) (by assumption) ?r27
    case y27 =>
      intro wS hSw
      try dsimp only at hSw
      go_simp
      all_goals with_reducible rfl
    simp only [Act.put, List.setIfInBounds_toArray, List.set_cons_zero, List.set_cons_succ]
    refine' wpAnyH_take (i := 6) (oi := ?o28) (v := _) (by simp only [List.getElem?_toArray, List.getElem?_cons_succ, List.getElem?_cons_zero]; rfl) (by kernel_rfl) (by kernel_rfl) (by kernel_rfl) (fun _ _ _ h => h) (Or.inl ⟨by rfl, ?y28⟩) (by assumption) ?r28
    case y28 =>
      intro wS hSw
      try dsimp only at hSw
      go_simp
      all_goals with_reducible rfl
    simp only [Act.put, List.setIfInBounds_toArray, List.set_cons_zero, List.set_cons_succ]
    refine' wpAnyH_take (i := 7) (oi := ?o29) (v := _) (by simp only [List.getElem?_toArray, List.getElem?_cons_succ, List.getElem?_cons_zero]; rfl) (by kernel_rfl) (by kernel_rfl) (by kernel_rfl) (fun _ _ _ h => h) (Or.inl ⟨by rfl, ?y29⟩) (by assumption) ?r29
    case y29 =>
      intro wS hSw
      try dsimp only at hSw
      go_simp
      all_goals with_reducible rfl
    simp only [Act.put, List.setIfInBounds_toArray, List.set_cons_zero, List.set_cons_succ]
    refine' wpAnyH_take (i := 8) (oi := ?o30) (v := _) (by simp only [List.getElem?_toArray, List.getElem?_cons_succ, List.getElem?_cons_zero]; rfl) (by kernel_rfl) (by kernel_rfl) (by kernel_rfl) (fun _ _ _ h => h) (Or.inl ⟨by rfl, ?y30⟩) (by assumption) ?r30
    case y30 =>
      intro wS hSw
      try dsimp only at hSw
      go_simp
      all_goals with_reducible rfl
    simp only [Act.put, List.setIfInBounds_toArray, List.set_cons_zero, List.set_cons_succ]
    refine' wpAnyH_take (i := 9) (oi := ?o31) (v := _) (by simp only [List.getElem?_toArray, List.getElem?_cons_succ, List.getElem?_cons_zero]; rfl) (by kernel_rfl) (by kernel_rfl) (by kernel_rfl) (fun _ _ _ h => h) (Or.inl ⟨by rfl, ?y31⟩) (by assumption) ?r31
    case y31 =>
      intro wS hSw
      try dsimp only at hSw
      go_simp
      all_goals with_reducible rfl
    simp only [Act.put, List.setIfInBounds_toArray, List.set_cons_zero, List.set_cons_succ]
    refine' wpAnyH_take (i := 10) (oi := ?o32) (v := _) (by simp only [List.getElem?_toArray, List.getElem?_cons_succ, List.getElem?_cons_zero]; rfl) (by kernel_rfl) (by kernel_rfl) (by kernel_rfl) (fun _ _ _ h => h) (Or.inl ⟨by rfl, ?y32⟩) (by assumption) ?r32
    case y32 =>
      intro wS hSw
      try dsimp only at hSw
      go_simp
      all_goals with_reducible rfl
    simp only [Act.put, List.setIfInBounds_toArray, List.set_cons_zero, List.set_cons_succ]
    refine' wpAnyH_take (i := 11) (oi := ?o33) (v := _) (by simp only [List.getElem?_toArray, List.getElem?_cons_succ, List.getElem?_cons_zero]; rfl) (by kernel_rfl) (by kernel_rfl) (by kernel_rfl) (fun _ _ _ h => h) (Or.inl ⟨by rfl, ?y33⟩) (by assumption) ?r33
    case y33 =>
      intro wS hSw
      try dsimp only at hSw
      go_simp
      all_goals with_reducible rfl
    simp only [Act.put, List.setIfInBounds_toArray, List.set_cons_zero, List.set_cons_succ]
    refine' wpAnyH_take (i := 13) (oi := ?o34) (v := _) (by simp only [List.getElem?_toArray, List.getElem?_cons_succ, List.getElem?_cons_zero]; rfl) (by kernel_rfl) (by kernel_rfl) (by kernel_rfl) (fun _ _ _ h => h) (Or.inl ⟨by rfl, ?y34⟩) (by assumption) ?r34
    case y34 =>
      intro wS hSw
      try dsimp only at hSw
      go_simp
      all_goals with_reducible rfl
    simp only [Act.put, List.setIfInBounds_toArray, List.set_cons_zero, List.set_cons_succ]
    refine' wpAnyH_take (i := 14) (oi := ?o35) (v := _) (by simp only [List.getElem?_toArray, List.getElem?_cons_succ, List.getElem?_cons_zero]; rfl) (by kernel_rfl) (by kernel_rfl) (by kernel_rfl) (fun _ _ _ h => h) (Or.inl ⟨by rfl, ?y35⟩) (by assumption) ?r35
    case y35 =>
      intro wS hSw
      try dsimp only at hSw
      go_simp
      all_goals with_reducible rfl
    simp only [Act.put, List.setIfInBounds_toArray, List.set_cons_zero, List.set_cons_succ]
    refine' wpAnyH_take (i := 15) (oi := ?o36) (v := _) (by simp only [List.getElem?_toArray, List.getElem?_cons_succ, List.getElem?_cons_zero]; rfl) (by kernel_rfl) (by kernel_rfl) (by kernel_rfl) (fun _ _ _ h => h) (Or.inl ⟨by rfl, ?y36⟩) (by assumption) ?r36
    case y36 =>
      intro wS hSw
      try dsimp only at hSw
      go_simp
      all_goals with_reducible rfl
    simp only [Act.put, List.setIfInBounds_toArray, List.set_cons_zero, List.set_cons_succ]
    refine' wpAnyH_take (i := 16) (oi := ?o37) (v := _) (by simp only [List.getElem?_toArray, List.getElem?_cons_succ, List.getElem?_cons_zero]; rfl) (by kernel_rfl) (by kernel_rfl) (by kernel_rfl) (fun _ _ _ h => h) (Or.inl ⟨by rfl, ?y37⟩) (by assumption) ?r37
    case y37 =>
      intro wS hSw
      try dsimp only at hSw
      go_simp
      all_goals with_reducible rfl
    simp only [Act.put, List.setIfInBounds_toArray, List.set_cons_zero, List.set_cons_succ]
    refine wpAnyH_ready (rs := [12]) (by kernel_rfl) (by simp) ?_
    refine' AllReadyH.cons (o := ?o38) (by simp only [List.getElem?_toArray, List.getElem?_cons_succ, List.getElem?_cons_zero]; rfl) (fun K hK => ?s38) ?m38
    case m38 => exact AllReadyH.nil
    go_simp
    refine hK.out _ _ ?_ (fun hHeld => ?_)
    · exact HSS.out _ ((Mod.rfl' _ w2).drewd)
    clear hK K
    try simp only [Act.put, List.setIfInBounds_toArray, List.set_cons_zero, List.set_cons_succ]
    refine wpAnyH_ready (rs := [17]) (by kernel_rfl) (by simp) ?_
    refine' AllReadyH.cons (o := ?o39) (by simp only [List.getElem?_toArray, List.getElem?_cons_succ, List.getElem?_cons_zero]; rfl) (fun K hK => ?s39) ?m39
    case m39 => exact AllReadyH.nil
    go_simp
    go_at_call 50
    (refine (refSet R _ ps name v _ (HPR.out.grow ((Grow.rfl' w2).drewd)) (by have := HL8.out; omega)).mono ?_; rintro e w5 ⟨v5, rfl, hp5, hg5⟩; have HG5 := Lib.hid hg5; have HP5 := Lib.hid hp5; obtain ⟨a5, k5, rfl⟩ := hp5.isSlice; have hq5 : w5.cell? ⟨g, i * 3 + 2, none⟩ = some (.slice pa ps.length pc) := (hg5.cell (p := ⟨g, i * 3 + 2, none⟩) hlt2).trans HCELL.out; have hz5 : w5.frozen? ⟨g, i * 3 + 2, none⟩ = false := (World.frozen?_of_block (w := w2.drew) (hg5.heapEq hlt2)).trans HFZ.out; have hl5 := cell_lt hq5; clear hp5 hg5)
    go_wp2_with fail
    refine hK.out _ _ ?_ (fun hHeld => ?_)
    · exact HSS.out _ (Mod.of_grow (((Grow.rfl' w2).drewd).step HG5.out))
    clear hK K
    try simp only [Act.put, List.setIfInBounds_toArray, List.set_cons_zero, List.set_cons_succ]
    refine' wpAnyH_take (i := 18) (oi := ?o40) (v := _) (by simp only [List.getElem?_toArray, List.getElem?_cons_succ, List.getElem?_cons_zero]; rfl) (by kernel_rfl) (by kernel_rfl) (by kernel_rfl) (fun _ _ _ h => h) (Or.inl ⟨by rfl, ?y40⟩) (by assumption) ?r40
    case y40 =>
      intro wS hSw
      try dsimp only at hSw
      go_simp
      all_goals with_reducible rfl
    simp only [Act.put, List.setIfInBounds_toArray, List.set_cons_zero, List.set_cons_succ]
    refine' wpAnyH_take (i := 19) (oi := ?o41) (v := _) (by simp only [List.getElem?_toArray, List.getElem?_cons_succ, List.getElem?_cons_zero]; rfl) (by kernel_rfl) (by kernel_rfl) (by kernel_rfl) (fun _ _ _ h => h) (Or.inl ⟨by rfl, ?y41⟩) (by assumption) ?r41
    case y41 =>
      intro wS hSw
      try dsimp only at hSw
      go_simp
      all_goals with_reducible rfl
    simp only [Act.put, List.setIfInBounds_toArray, List.set_cons_zero, List.set_cons_succ]
    refine wpAnyH_ready (rs := [20]) (by kernel_rfl) (by simp) ?_
    refine' AllReadyH.cons (o := ?o42) (by simp only [List.getElem?_toArray, List.getElem?_cons_succ, List.getElem?_cons_zero]; rfl) (fun K hK => ?s42) ?m42
    case m42 => exact AllReadyH.nil
    go_simp
    refine hK.out _ _ ?_ (fun hHeld => ?_)
    · exact HSS.out _ ((Mod.of_grow (F := fun b => b = g) (((Grow.rfl' w2).drewd).step HG5.out)).setd (p := ⟨g, i * 3 + 2, none⟩) (.inl rfl) _)
    clear hK K
    try simp only [Act.put, List.setIfInBounds_toArray, List.set_cons_zero, List.set_cons_succ]
    refine wpAnyH_done (by kernel_rfl) ?_ _
    refine NoPanic.normal ?_
    go_wp2
    go_ret2
    have hcl := setProp_close (o := ⟨5, id, typ, from_, to_, name, v, cascade⟩) HI.out HBW.out H2.out H3.out H4.out H5.out H6.out H7.out H8.out HPA.out HF.out (((Grow.rfl' w2).drewd).step HG5.out) (HP5.out.sub (fun b hb => hb))
    refine rdo_fin HM.out HG2.out ?_ (hcl.1.sub (fun b hb => hb.imp (fun h => h.1) (fun h => h))) (hcl.2.mono (fun b hb => hb.1))
    rw [HM.out]; rfl

theorem refDo (S SC : Nat → Prop) (B : Nat) (G : PGraph) (nv ev rv iv : Value) (c : PCat) (o : POp) (w : World) (h : GraphOk 86 S w B G) (hG : GInv G) (hc : CatR SC w nv ev rv iv c) :
    Calls Tryz.prog 18 #[.pointer (some ⟨B, 0, none⟩), c.arg nv ev rv iv, o.args] w (RDoPost S B G c o w) := by
  by_cases hm : mayG c o G = 0
  · rcases may_kind hm with hk | hk | hk | hk | hk
    · exact rdo1 S SC B G nv ev rv iv c o w h hG hc hm hk
    · exact rdo2 S SC B G nv ev rv iv c o w h hG hc hm hk
    · exact rdo3 S SC B G nv ev rv iv c o w h hG hc hm hk
    · exact rdo4 S SC B G nv ev rv iv c o w h hG hc hm hk
    · exact rdo5 S SC B G nv ev rv iv c o w h hG hc hm hk
  · exact rdoNo S SC B G nv ev rv iv c o w h hG hc hm
end Go.Hg
