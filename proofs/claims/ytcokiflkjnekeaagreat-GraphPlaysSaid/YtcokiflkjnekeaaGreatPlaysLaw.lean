/- hedgerowlaw17.GraphPlays: true. No condition. Printed by genplays.py. -/
import Derived.Test.YtcokiflkjnekeaaGreatLookLaw
import Derived.Test.YtcokiflkjnekeaaGreatCatC
import Derived.Test.YtcokiflkjnekeaaGreatLex
namespace Go.Hg
open Go.RowKit Go.Proofs

/-- two graphs that lie apart; what is between lo and wx's end is as it was -/
def PairX (wx : World) (lo : Nat) (T1 T2 : TypeId) (w1 w : World) (B1 B2 : Nat) (G1 G2 : PGraph) : Prop :=
  ∃ S1 S2 : Nat → Prop, GraphOk T1 S1 w B1 G1 ∧ GraphOk T2 S2 w B2 G2 ∧ (∀ b, S1 b → ¬ S2 b) ∧ (∀ b, S1 b → ((w1.heap.size ≤ b ∧ b < lo) ∨ wx.heap.size ≤ b) ∧ b < w.heap.size) ∧ (∀ b, S2 b → ((w1.heap.size ≤ b ∧ b < lo) ∨ wx.heap.size ≤ b) ∧ b < w.heap.size) ∧ Mod (fun b => w1.heap.size ≤ b ∧ b < lo) wx w
theorem PairX.grow {wx : World} {lo : Nat} {T1 T2 : TypeId} {w1 w w' : World} {B1 B2 : Nat} {G1 G2 : PGraph} (h : PairX wx lo T1 T2 w1 w B1 B2 G1 G2) (g : Grow w w') : PairX wx lo T1 T2 w1 w' B1 B2 G1 G2 := by
  obtain ⟨S1, S2, h1, h2, h3, h4, h5, h6⟩ := h
  exact ⟨S1, S2, h1.grow g, h2.grow g, h3, fun b hb => ⟨(h4 b hb).1, Nat.lt_of_lt_of_le (h4 b hb).2 g.size⟩, fun b hb => ⟨(h5 b hb).1, Nat.lt_of_lt_of_le (h5 b hb).2 g.size⟩, h6.step (Mod.of_grow g)⟩
theorem PairX.mod {wx : World} {lo : Nat} {T1 T2 : TypeId} {w1 w : World} {B1 B2 : Nat} {G1 G2 : PGraph} (h : PairX wx lo T1 T2 w1 w B1 B2 G1 G2) : Mod (fun b => w1.heap.size ≤ b ∧ b < lo) wx w := by
  obtain ⟨_, _, _, _, _, _, _, h⟩ := h; exact h
theorem PairX.swap {wx : World} {lo : Nat} {T1 T2 : TypeId} {w1 w : World} {B1 B2 : Nat} {G1 G2 : PGraph} (h : PairX wx lo T1 T2 w1 w B1 B2 G1 G2) : PairX wx lo T2 T1 w1 w B2 B1 G2 G1 := by
  obtain ⟨S1, S2, h1, h2, h3, h4, h5, h6⟩ := h
  exact ⟨S2, S1, h2, h1, fun b hb hb' => h3 b hb' hb, h5, h4, h6⟩
theorem PairX.step1 {wx : World} {lo : Nat} {T1 T2 : TypeId} {w1 w w' : World} {B1 B2 : Nat} {G2 G3 : PGraph} {S1 S2 : Nat → Prop} (h2 : GraphOk T2 S2 w B2 G2) (h3 : ∀ b, S1 b → ¬ S2 b) (h4 : ∀ b, S1 b → ((w1.heap.size ≤ b ∧ b < lo) ∨ wx.heap.size ≤ b) ∧ b < w.heap.size)
    (h5 : ∀ b, S2 b → ((w1.heap.size ≤ b ∧ b < lo) ∨ wx.heap.size ≤ b) ∧ b < w.heap.size) (h6 : Mod (fun b => w1.heap.size ≤ b ∧ b < lo) wx w)
    (k1 : GraphOk T1 (fun b => S1 b ∨ w.heap.size ≤ b) w' B1 G3) (k2 : Mod S1 w w') : PairX wx lo T1 T2 w1 w' B1 B2 G3 G2 := by
  have hs := k2.size
  have h1s := h6.size
  exact ⟨fun b => (S1 b ∨ w.heap.size ≤ b) ∧ b < w'.heap.size, S2, k1.cut, h2.keep k2 (fun b hb hb' => h3 b hb' hb), fun b hb hb' => hb.1.elim (fun h => h3 b h hb') (fun h => by have := (h5 b hb').2; omega), fun b hb => ⟨hb.1.elim (fun h => (h4 b h).1) (fun h => .inr (by omega)), hb.2⟩,
    fun b hb => ⟨(h5 b hb).1, by have := (h5 b hb).2; omega⟩, h6.step' k2 (fun b hb => (h4 b hb).1)⟩
theorem pairXDo1 {T2 : TypeId} (wx : World) (lo : Nat) (SC : Nat → Prop) (B1 B2 : Nat) (G1 G2 : PGraph) (nv ev rv iv : Value) (c : PCat) (o : POp) (w1 w : World) (h : PairX wx lo 68 T2 w1 w B1 B2 G1 G2) (hG : GInv G1) (hc : CatR SC w nv ev rv iv c) :
    Calls Tryz.prog 11 #[.pointer (some ⟨B1, 0, none⟩), c.arg nv ev rv iv, o.args] w fun e w' =>
      e = .returned (.tuple #[.int .i64 (if mayG c o G1 = 0 then idG o G1 else 0), .int .i64 (mayG c o G1)]) ∧ PairX wx lo 68 T2 w1 w' B1 B2 (stepG c o G1) G2 := by
  obtain ⟨S1, S2, h1, h2, h3, h4, h5, h6⟩ := h
  exact (graphDo S1 SC B1 G1 nv ev rv iv c o w h1 hG hc).mono fun _ _ ⟨k1, k2, k3⟩ => ⟨k1, PairX.step1 h2 h3 h4 h5 h6 k2 k3⟩
theorem pairXDo2 {T2 : TypeId} (wx : World) (lo : Nat) (SC : Nat → Prop) (B1 B2 : Nat) (G1 G2 : PGraph) (nv ev rv iv : Value) (c : PCat) (o : POp) (w1 w : World) (h : PairX wx lo T2 70 w1 w B1 B2 G1 G2) (hG : GInv G2) (hc : CatR SC w nv ev rv iv c) :
    Calls Tryz.prog 12 #[.pointer (some ⟨B2, 0, none⟩), c.arg nv ev rv iv, o.args] w fun e w' =>
      e = .returned (.tuple #[.int .i64 (if mayG c o G2 = 0 then idG o G2 else 0), .int .i64 (mayG c o G2)]) ∧ PairX wx lo T2 70 w1 w' B1 B2 G1 (stepG c o G2) := by
  obtain ⟨S1, S2, h1, h2, h3, h4, h5, h6⟩ := h
  exact (refDo S2 SC B2 G2 nv ev rv iv c o w h2 hG hc).mono fun _ _ ⟨k1, k2, k3⟩ => ⟨k1, (PairX.step1 h1 (fun b hb hb' => h3 b hb' hb) h5 h4 h6 k2 k3).swap⟩
theorem CatR.frame {F S : Nat → Prop} {w w' : World} {nv ev rv iv : Value} {c : PCat} (h : CatR S w nv ev rv iv c) (g : Mod F w w') (hd : ∀ b, S b → ¬ F b) : CatR S w' nv ev rv iv c := h.mod g hd

set_option maxRecDepth 100000 in
set_option maxHeartbeats 8000000 in
theorem lawPlays (nv ev rv iv : Value) (c : PCat) (S : Nat → Prop) (v : Value) (l : List POp) (w : World) (hc : CatR (fun _ => True) w nv ev rv iv c) (hl : OpsR S w v l) :
    Calls Tryz.prog 3 #[c.arg nv ev rv iv, v] w fun e w' => e = .returned (.bool true) ∧ Grow w w' := by
  have HL := Lib.hid hl; have HC := Lib.hid hc
  obtain ⟨aa, ca, rfl, hal, hac, hA⟩ := SlR.open hl
  obtain ⟨qna, qnc, qea, qec, qra, qrc, qia, qic, rfl, rfl, rfl, rfl⟩ := hc.slices
  clear hl hc
  unfold maxLen at hac
  have HA := Lib.hid hA; clear hA
  have HW := Lib.hid (show ∀ o1, Grow w (w.alloc o1) from fun o1 => (Grow.rfl' w).allocd o1)
  have HNB := Lib.hid (heap_alloc_new w (.cells #[.slice qna c.nodes.length qnc, .slice qea c.edges.length qec, .slice qra c.rules.length qrc, .slice qia c.indexes.length qic, .int .i64 c.nextRule] 26))
  go_enter Tryz.func3, Tryz.ntmps3
  go_wp2_with fail
  refine (keepLargeCat (fun _ => True) _ _ _ _ c _ (HC.out.grow (HW.out _))).mono ?_
  rintro e w2 ⟨b, rfl, hb, hg2⟩
  have HG2 := Lib.hid ((HW.out _).step hg2); have HBD := Lib.hid hb
  have HCB := Lib.hid (show ∀ w', Grow w2 w' → w'.heap[w.heap.size]? = _ from fun w' hg' => ((hg2.step hg').heapEq (by simp)).trans HNB.out)
  clear hg2 hb HNB
  cases b
  rotate_left
  · go_wp2_with fail
    refine (lawWakes _).mono ?_
    rintro e w4 ⟨rfl, hg4⟩
    have HG4 := Lib.hid (HG2.out.step hg4); clear hg4
    go_wp2
    go_ret
    exact ⟨rfl, HG4.out⟩
  go_wp2_with fail
  refine (lawFair S _ l _ (HL.out.growS HG2.out)).mono ?_
  rintro e w1 ⟨rfl, hg1⟩
  have HG1 := Lib.hid (HG2.out.step hg1); have HG21 := Lib.hid hg1
  clear hg1
  cases hf : fairOps l
  · clear hf
    go_wp2_with fail
    refine (lawWakes _).mono ?_
    rintro e w5 ⟨rfl, hg5⟩
    have HG5 := Lib.hid (HG1.out.step hg5); clear hg5
    go_wp2
    go_ret
    exact ⟨rfl, HG5.out⟩
  clear hf
  have hbd := HBD.out (by trivial)
  have HBD1 := Lib.hid hbd
  clear hbd HBD
  go_wp2_with fail
  refine (graphNew _).mono ?_
  rintro e w3 ⟨B1, rfl, hgr, hg3⟩
  have HGR3 := Lib.hid hgr; have HG13 := Lib.hid hg3
  clear hgr hg3
  go_wp2_with fail
  refine (refNew _).mono ?_
  rintro e w4 ⟨B2, rfl, hgr, hg4⟩
  have HQ4 := Lib.hid hgr; have HG34 := Lib.hid hg4
  have hx4 := HCB.out w4 ((HG21.out.step HG13.out).step hg4)
  have hx4l := blk_lt hx4
  have k0 : w4.cell? ⟨w.heap.size, 0, none⟩ = some (.slice qna c.nodes.length qnc) := by rw [blk_cell hx4]; rfl
  have k1 : w4.cell? ⟨w.heap.size, 1, none⟩ = some (.slice qea c.edges.length qec) := by rw [blk_cell hx4]; rfl
  have k2 : w4.cell? ⟨w.heap.size, 2, none⟩ = some (.slice qra c.rules.length qrc) := by rw [blk_cell hx4]; rfl
  have k3 : w4.cell? ⟨w.heap.size, 3, none⟩ = some (.slice qia c.indexes.length qic) := by rw [blk_cell hx4]; rfl
  have k4 : w4.cell? ⟨w.heap.size, 4, none⟩ = some (.int .i64 c.nextRule) := by rw [blk_cell hx4]; rfl
  have HG4 := Lib.hid (HG1.out.step (HG13.out.step HG34.out))
  clear hgr hg4 hx4
  go_wp2_with fail
  refine (keepCopyCat (fun _ => True) _ _ _ _ c _ (HC.out.grow HG4.out) HBD1.out).mono ?_
  rintro e w5 ⟨nv', ev', rv', iv', rfl, hci, hg5⟩
  have HG45 := Lib.hid hg5
  obtain ⟨pna, pnc, pea, pec, pra, prc, pia, pic, rfl, rfl, rfl, rfl⟩ := hci.slices
  have HCI := Lib.hid hci
  clear hci hg5 k0 k1 k2 k3 k4 hx4l
  have HWX := Lib.hid (show ∀ o1, Grow w5 (w5.alloc o1) from fun o1 => (Grow.rfl' w5).allocd o1)
  go_wp2
  obtain ⟨wx, hwx⟩ : ∃ x, x = w5.alloc (.cells #[.slice pna c.nodes.length pnc, .slice pea c.edges.length pec, .slice pra c.rules.length prc, .slice pia c.indexes.length pic, .int .i64 c.nextRule] 26) := ⟨_, rfl⟩
  rw [← hwx]
  have HG5X := Lib.hid (show Grow w5 wx from hwx ▸ HWX.out _)
  have HIB := Lib.hid (show wx.heap[w5.heap.size]? = some (.cells #[.slice pna c.nodes.length pnc, .slice pea c.edges.length pec, .slice pra c.rules.length prc, .slice pia c.indexes.length pic, .int .i64 c.nextRule] 26 (0, 0)) from hwx ▸ heap_alloc_new w5 _)
  clear hwx
  have HGWX := Lib.hid ((HG4.out.step HG45.out).step HG5X.out)
  have HG1X := Lib.hid (((HG13.out.step HG34.out).step HG45.out).step HG5X.out)
  have HPX := Lib.hid (show PairX wx w4.heap.size 68 70 w1 wx B1 B2 PGraph.empty PGraph.empty by
    have s13 := HG13.out.size; have s34 := HG34.out.size; have s45 := HG45.out.size; have s5x := HG5X.out.size
    exact ⟨fun b => w1.heap.size ≤ b ∧ b < w3.heap.size, fun b => w3.heap.size ≤ b ∧ b < w4.heap.size, HGR3.out.cut.grow ((HG34.out.step HG45.out).step HG5X.out), HQ4.out.cut.grow (HG45.out.step HG5X.out), fun b h1 h2 => by omega, fun b h => ⟨.inl ⟨h.1, by omega⟩, by omega⟩, fun b h => ⟨.inl ⟨by omega, h.2⟩, by omega⟩, Mod.rfl' _ _⟩)
  have HCX := Lib.hid (HCI.out.grow HG5X.out)
  have HINX := Lib.hid (show ∀ w', Mod (fun b => w1.heap.size ≤ b ∧ b < w4.heap.size) wx w' → (w'.cell? ⟨w5.heap.size, 0, none⟩ = some (.slice pna c.nodes.length pnc) ∧ w'.cell? ⟨w5.heap.size, 1, none⟩ = some (.slice pea c.edges.length pec) ∧ w'.cell? ⟨w5.heap.size, 2, none⟩ = some (.slice pra c.rules.length prc) ∧ w'.cell? ⟨w5.heap.size, 3, none⟩ = some (.slice pia c.indexes.length pic) ∧ w'.cell? ⟨w5.heap.size, 4, none⟩ = some (.int .i64 c.nextRule)) from fun w' hm => by
    have h := (hm.block w5.heap.size (blk_lt HIB.out) (fun hb => by have := HG45.out.size; omega)).trans HIB.out
    exact ⟨by rw [blk_cell h]; rfl, by rw [blk_cell h]; rfl, by rw [blk_cell h]; rfl, by rw [blk_cell h]; rfl, by rw [blk_cell h]; rfl⟩)
  have HCINX := Lib.hid (show ∀ w', Mod (fun b => w1.heap.size ≤ b ∧ b < w4.heap.size) wx w' → CatR (fun b => w4.heap.size ≤ b) w' (.slice pna c.nodes.length pnc) (.slice pea c.edges.length pec) (.slice pra c.rules.length prc) (.slice pia c.indexes.length pic) c from fun w' hm => HCX.out.frame hm (fun b hb hf => by omega))
  have HGM := Lib.hid (show ∀ w', Mod (fun b => w1.heap.size ≤ b ∧ b < w4.heap.size) wx w' → Grow w1 w' from fun w' hm => HG1X.out.modd hm (fun b hb => hb.1))
  have HCOX := Lib.hid (show ∀ w', Grow w1 w' → (w'.cell? ⟨w.heap.size, 0, none⟩ = some (.slice qna c.nodes.length qnc) ∧ w'.cell? ⟨w.heap.size, 1, none⟩ = some (.slice qea c.edges.length qec) ∧ w'.cell? ⟨w.heap.size, 2, none⟩ = some (.slice qra c.rules.length qrc) ∧ w'.cell? ⟨w.heap.size, 3, none⟩ = some (.slice qia c.indexes.length qic) ∧ w'.cell? ⟨w.heap.size, 4, none⟩ = some (.int .i64 c.nextRule)) from fun w' hg => by
    have h := HCB.out w' (HG21.out.step hg)
    exact ⟨by rw [blk_cell h]; rfl, by rw [blk_cell h]; rfl, by rw [blk_cell h]; rfl, by rw [blk_cell h]; rfl, by rw [blk_cell h]; rfl⟩)
  have HIL := Lib.hid (blk_lt HIB.out)
  have HWL := Lib.hid (show w.heap.size < w1.heap.size from blk_lt (HCB.out w1 HG21.out))
  clear HGR3 HQ4 HCI HCX HIB HCB HG45 HG5X HG13 HG34 HG4 HWX
  go_loopg [8] l.length (fun g i wr => ∃ (k : Nat) (G : PGraph), k ≤ l.length ∧ g = l.length - k ∧ i = .int .i64 k ∧ GInv G ∧ PairX wx w4.heap.size 68 70 w1 wr B1 B2 G G)
  case atStart => exact ⟨0, PGraph.empty, by omega, by omega, rfl, GInv.empty, HPX.out⟩
  case round =>
    obtain ⟨k, G, hk, rfl, rfl, hgi, hpr⟩ := hrel
    have HI := Lib.hid hgi; have HP := Lib.hid hpr
    clear hgi hpr HPX
    have HGK := Lib.hid (HGM.out _ HP.out.mod)
    by_cases hkl : k < l.length
    · obtain ⟨ba, oa, ra, rfl, hSa, hba, hRa, hca⟩ := HA.out k l[k] (List.getElem?_eq_getElem hkl)
      have HS := Lib.hid (show ∀ w', Grow w w' → (w'.cell? ⟨ba, oa + k * 10, none⟩ = some (.int .i64 l[k].kind) ∧ w'.cell? ⟨ba, oa + k * 10 + 1, none⟩ = some (.int .i64 l[k].id) ∧ w'.cell? ⟨ba, oa + k * 10 + 2, none⟩ = some (.string l[k].typ) ∧ w'.cell? ⟨ba, oa + k * 10 + 3, none⟩ = some (.int .i64 l[k].from_) ∧ w'.cell? ⟨ba, oa + k * 10 + 4, none⟩ = some (.int .i64 l[k].to_) ∧ w'.cell? ⟨ba, oa + k * 10 + 5, none⟩ = some (.string l[k].name) ∧ w'.cell? ⟨ba, oa + k * 10 + 6, none⟩ = some (.int .i64 l[k].v.kind) ∧ w'.cell? ⟨ba, oa + k * 10 + 7, none⟩ = some (.int .i64 l[k].v.n) ∧ w'.cell? ⟨ba, oa + k * 10 + 8, none⟩ = some (.string l[k].v.s) ∧ w'.cell? ⟨ba, oa + k * 10 + 9, none⟩ = some (.bool l[k].cascade)) from fun w' hg' => (opCells hRa hba hg' hca).2)
      clear hca hRa hSa hba
      generalize l[k] = o at *
      obtain ⟨rid, hrid⟩ : ∃ r, r = (if mayG c o G = 0 then idG o G else 0) := ⟨_, rfl⟩
      obtain ⟨rer, hrer⟩ : ∃ r, r = mayG c o G := ⟨_, rfl⟩
      have HRID := Lib.hid hrid; have HRER := Lib.hid hrer
      clear hrid hrer
      have hin := HINX.out _ HP.out.mod
      obtain ⟨i0, i1, i2, i3, i4⟩ := hin
      obtain ⟨o0, o1, o2, o3, o4, o5, o6, o7, o8, o9⟩ := HS.out _ (HG1.out.step HGK.out)
      have hil : w5.heap.size < wr.heap.size := Nat.lt_of_lt_of_le HIL.out HP.out.mod.size
      have hbl : ba < wr.heap.size := cell_lt o0
      obtain ⟨SA, SB, hga, hgb, -, -, -, -⟩ := HP.out
      have HGA := Lib.hid hga
      clear hga hgb
      go_wp2_with fail
      refine wp_region_grow (by kernel_rfl) (by kernel_rfl) ?_
      repeat (go_big_quiet_step (exact calls_gr ((graphMay SA _ B1 G (.slice pna c.nodes.length pnc) (.slice pea c.edges.length pec) (.slice pra c.rules.length prc) (.slice pia c.indexes.length pic) c o _ (HGA.out.grow (Gr.h _)) HI.out ((HCINX.out _ HP.out.mod).grow (Gr.h _))).mono fun e w' ⟨h, g⟩ => ⟨by rw [h, ← HRER.out], g⟩)))
      refine wpQuiet_nil ?_
      intro wm hwm
      have HPM := Lib.hid (HP.out.grow hwm)
      have HGMM := Lib.hid (HGM.out _ HPM.out.mod)
      clear hwm i0 i1 i2 i3 i4 o0 o1 o2 o3 o4 o5 o6 o7 o8 o9 hil hbl HGA
      have HPD := Lib.hid (HPM.out.grow ((Grow.rfl' wm).drewd))
      go_wp2_with fail
      go_region_held3 (fun w' => (w'.cell? ⟨w5.heap.size, 0, none⟩ = some (.slice pna c.nodes.length pnc) ∧ w'.cell? ⟨w5.heap.size, 1, none⟩ = some (.slice pea c.edges.length pec) ∧ w'.cell? ⟨w5.heap.size, 2, none⟩ = some (.slice pra c.rules.length prc) ∧ w'.cell? ⟨w5.heap.size, 3, none⟩ = some (.slice pia c.indexes.length pic) ∧ w'.cell? ⟨w5.heap.size, 4, none⟩ = some (.int .i64 c.nextRule)) ∧ (w'.cell? ⟨ba, oa + k * 10, none⟩ = some (.int .i64 o.kind) ∧ w'.cell? ⟨ba, oa + k * 10 + 1, none⟩ = some (.int .i64 o.id) ∧ w'.cell? ⟨ba, oa + k * 10 + 2, none⟩ = some (.string o.typ) ∧ w'.cell? ⟨ba, oa + k * 10 + 3, none⟩ = some (.int .i64 o.from_) ∧ w'.cell? ⟨ba, oa + k * 10 + 4, none⟩ = some (.int .i64 o.to_) ∧ w'.cell? ⟨ba, oa + k * 10 + 5, none⟩ = some (.string o.name) ∧ w'.cell? ⟨ba, oa + k * 10 + 6, none⟩ = some (.int .i64 o.v.kind) ∧ w'.cell? ⟨ba, oa + k * 10 + 7, none⟩ = some (.int .i64 o.v.n) ∧ w'.cell? ⟨ba, oa + k * 10 + 8, none⟩ = some (.string o.v.s) ∧ w'.cell? ⟨ba, oa + k * 10 + 9, none⟩ = some (.bool o.cascade))) (first | exact ⟨HINX.out _ HPD.out.mod, HS.out _ (HG1.out.step (HGM.out _ HPD.out.mod))⟩ | exact ⟨HINX.out _ HP4.out.mod, HS.out _ (HG1.out.step (HGM.out _ HP4.out.mod))⟩) (first | (go_at_call 11; refine (pairXDo1 wx _ _ B1 B2 G G (.slice pna c.nodes.length pnc) (.slice pea c.edges.length pec) (.slice pra c.rules.length prc) (.slice pia c.indexes.length pic) c o w1 _ HPD.out HI.out (HCINX.out _ HPD.out.mod)).mono ?_; rintro e wd4 ⟨rfl, hp4⟩; have HP4 := Lib.hid hp4; clear hp4; rw [← HRID.out, ← HRER.out]))
      have HPD5 := Lib.hid (HP4.out.grow ((Grow.rfl' wd4).drewd))
      go_wp2_with fail
      go_region_held3 (fun w' => (w'.cell? ⟨w.heap.size, 0, none⟩ = some (.slice qna c.nodes.length qnc) ∧ w'.cell? ⟨w.heap.size, 1, none⟩ = some (.slice qea c.edges.length qec) ∧ w'.cell? ⟨w.heap.size, 2, none⟩ = some (.slice qra c.rules.length qrc) ∧ w'.cell? ⟨w.heap.size, 3, none⟩ = some (.slice qia c.indexes.length qic) ∧ w'.cell? ⟨w.heap.size, 4, none⟩ = some (.int .i64 c.nextRule)) ∧ (w'.cell? ⟨ba, oa + k * 10, none⟩ = some (.int .i64 o.kind) ∧ w'.cell? ⟨ba, oa + k * 10 + 1, none⟩ = some (.int .i64 o.id) ∧ w'.cell? ⟨ba, oa + k * 10 + 2, none⟩ = some (.string o.typ) ∧ w'.cell? ⟨ba, oa + k * 10 + 3, none⟩ = some (.int .i64 o.from_) ∧ w'.cell? ⟨ba, oa + k * 10 + 4, none⟩ = some (.int .i64 o.to_) ∧ w'.cell? ⟨ba, oa + k * 10 + 5, none⟩ = some (.string o.name) ∧ w'.cell? ⟨ba, oa + k * 10 + 6, none⟩ = some (.int .i64 o.v.kind) ∧ w'.cell? ⟨ba, oa + k * 10 + 7, none⟩ = some (.int .i64 o.v.n) ∧ w'.cell? ⟨ba, oa + k * 10 + 8, none⟩ = some (.string o.v.s) ∧ w'.cell? ⟨ba, oa + k * 10 + 9, none⟩ = some (.bool o.cascade))) (first | exact ⟨HCOX.out _ (HGM.out _ HPD5.out.mod), HS.out _ (HG1.out.step (HGM.out _ HPD5.out.mod))⟩ | exact ⟨HCOX.out _ (HGM.out _ HP6.out.mod), HS.out _ (HG1.out.step (HGM.out _ HP6.out.mod))⟩) (first | (go_at_call 12; refine (pairXDo2 wx _ (fun _ => True) B1 B2 (stepG c o G) G (.slice qna c.nodes.length qnc) (.slice qea c.edges.length qec) (.slice qra c.rules.length qrc) (.slice qia c.indexes.length qic) c o w1 _ HPD5.out HI.out (HC.out.grow (HG1.out.step (HGM.out _ HPD5.out.mod)))).mono ?_; rintro e wd6 ⟨rfl, hp6⟩; have HP6 := Lib.hid hp6; clear hp6; rw [← HRID.out, ← HRER.out]))
      have HI4 := Lib.hid (HI.out.stepG (c := c) (o := o))
      clear HRID HRER HP HPM HPD HPD5 HP4
      generalize stepG c o G = G4 at *
      obtain ⟨SA, SB, hga, hgb, -, -, -, -⟩ := HP6.out
      have HGA := Lib.hid hga; have HGB := Lib.hid hgb
      clear hga hgb
      obtain ⟨o0, o1, o2, o3, o4, o5, o6, o7, o8, o9⟩ := HS.out _ (HG1.out.step (HGM.out _ HP6.out.mod))
      have hbl : ba < wd6.heap.size := cell_lt o0
      go_wp2_with fail
      refine wp_region_grow (by kernel_rfl) (lexB_of _ _ (by kernel_rfl)) ?_
      repeat (go_big_quiet_step (first | (go_at_call 13; exact calls_gr (lawSame SA SB B1 B2 G4 _ (HGA.out.grow (Gr.h _)) (HGB.out.grow (Gr.h _)) HI4.out)) | (go_at_call 14; exact calls_gr (lawLook SA SB B1 B2 G4 _ _ _ (HGA.out.grow (Gr.h _)) (HGB.out.grow (Gr.h _)) HI4.out))))
      refine wpQuiet_nil ?_
      intro w8 hw8
      clear o0 o1 o2 o3 o4 o5 o6 o7 o8 o9 hbl
      go_wp2_with fail
      go_roundg (l.length - (k + 1))
      case measure => omega
      case rel => exact ⟨k + 1, G4, by omega, rfl, by go_num, HI4.out, HP6.out.grow hw8⟩
    · obtain ⟨i0, i1, i2, i3, i4⟩ := HINX.out _ HP.out.mod
      obtain ⟨k0, k1, k2, k3, k4⟩ := HCOX.out _ HGK.out
      have hil : w5.heap.size < wr.heap.size := Nat.lt_of_lt_of_le HIL.out HP.out.mod.size
      have hwl : w.heap.size < wr.heap.size := Nat.lt_of_lt_of_le HWL.out HGK.out.size
      go_wp2_with fail
      refine (keepCatsEq _ (fun _ => True) (.slice pna c.nodes.length pnc) (.slice pea c.edges.length pec) (.slice pra c.rules.length prc) (.slice pia c.indexes.length pic) (.slice qna c.nodes.length qnc) (.slice qea c.edges.length qec) (.slice qra c.rules.length qrc) (.slice qia c.indexes.length qic) c _ (HCINX.out _ HP.out.mod) (HC.out.grow (HG1.out.step HGK.out))).mono ?_
      rintro e w12 ⟨rfl, hg12⟩
      have HG12 := Lib.hid ((HG1.out.step HGK.out).step hg12)
      clear hg12 i0 i1 i2 i3 i4 k0 k1 k2 k3 k4 hil hwl
      go_wp2_with fail
      refine (lawWakes _).mono ?_
      rintro e w13 ⟨rfl, hg13⟩
      have HG13 := Lib.hid (HG12.out.step hg13)
      clear hg13
      go_wp2
      go_ret
      exact ⟨rfl, HG13.out⟩
end Go.Hg
