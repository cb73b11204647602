/- hedgerowref17.May: the same error. Conditions: those that each theorem names. -/
import Derived.WalkKit
import Derived.WalkSpells
import Derived.WalkLawsBesides
import Derived.Lib.Hide
import Derived.BigQuiet
import Derived.Deep.LoopGhost
import Derived.Test.YtfachjfohhhgeaaGreatRows
import Derived.Lib.SliceRun
import Derived.WideMake
import Derived.Deep.RegionLaw
import Derived.Lib.Overlaps
import Derived.Deep.RegionHeld3
import Derived.Laws.ResultCell
import Derived.Laws.EntriesVeiled
import Derived.Test.YtfachjfohhhgeaaGreatUdL
import Derived.Test.YtfachjfohhhgeaaGreatUdN
import Derived.Test.YtfachjfohhhgeaaGreatUdP
namespace Go.Hg
open Go.RowKit Go.Proofs

theorem mayG_1 {c : PCat} {o : POp} {G : PGraph} (h : o.kind = 1) : mayG c o G = if memS o.typ c.nodes = false then 140 else if fullG G = true then 50 else 0 := by unfold mayG; rw [if_pos h]
theorem mayG_2 {c : PCat} {o : POp} {G : PGraph} (h : o.kind = 2) : mayG c o G = if hasN G o.id = false then 60 else if o.cascade = false ∧ (G.edges.any fun x => atE x o.id) = true then 160 else 0 := by
  unfold mayG; rw [if_neg (by omega), if_pos h]
theorem mayG_3 {c : PCat} {o : POp} {G : PGraph} (h : o.kind = 3) : mayG c o G = if memS o.typ c.edges = false then 140 else if hasN G o.from_ = false ∨ hasN G o.to_ = false then 141 else if fullG G = true then 50 else 0 := by
  unfold mayG; rw [if_neg (by omega), if_neg (by omega), if_pos h]
theorem mayG_4 {c : PCat} {o : POp} {G : PGraph} (h : o.kind = 4) : mayG c o G = if hasE G o.id = false then 60 else 0 := by
  unfold mayG; rw [if_neg (by omega), if_neg (by omega), if_neg (by omega), if_pos h]
theorem mayG_5b {c : PCat} {o : POp} {G : PGraph} (h : o.kind = 5) (hn : ¬ NameOk o.name ∨ (¬ GoodV o.v ∧ ¬ BlankV o.v)) : mayG c o G = 142 := by
  unfold mayG; rw [if_neg (by omega), if_neg (by omega), if_neg (by omega), if_neg (by omega), if_pos h, if_pos hn]
theorem mayG_5n {c : PCat} {o : POp} {G : PGraph} (h : o.kind = 5) (hn : ¬ (¬ NameOk o.name ∨ (¬ GoodV o.v ∧ ¬ BlankV o.v))) (hf : findP G o.id = none) : mayG c o G = 60 := by
  unfold mayG; rw [if_neg (by omega), if_neg (by omega), if_neg (by omega), if_neg (by omega), if_pos h, if_neg hn, hf]
theorem mayG_5s {c : PCat} {o : POp} {G : PGraph} {ps : List PProp} (h : o.kind = 5) (hn : ¬ (¬ NameOk o.name ∨ (¬ GoodV o.v ∧ ¬ BlankV o.v))) (hf : findP G o.id = some ps) : mayG c o G = if 8 < (setP ps o.name o.v).length then 3 else 0 := by
  unfold mayG; rw [if_neg (by omega), if_neg (by omega), if_neg (by omega), if_neg (by omega), if_pos h, if_neg hn, hf]
theorem mayG_0 {c : PCat} {o : POp} {G : PGraph} (h1 : o.kind ≠ 1) (h2 : o.kind ≠ 2) (h3 : o.kind ≠ 3) (h4 : o.kind ≠ 4) (h5 : o.kind ≠ 5) : mayG c o G = 150 := by
  unfold mayG; rw [if_neg h1, if_neg h2, if_neg h3, if_neg h4, if_neg h5]
theorem atG_pos (G : PGraph) (id : Int) : decide (0 < ((atG G id).length : Int)) = G.edges.any fun x => atE x id := by
  unfold atG
  rw [List.length_map]
  cases h : G.edges.any fun x => atE x id
  · rw [List.filter_eq_nil_iff.2 (fun x hx => by have := List.any_eq_false.1 h x hx; exact this)]; rfl
  · obtain ⟨x, hx, hp⟩ := List.any_eq_true.1 h
    have : x ∈ G.edges.filter fun x => atE x id := List.mem_filter.2 ⟨hx, hp⟩
    exact decide_eq_true (by have := List.length_pos_of_mem this; omega)
set_option maxRecDepth 100000 in
set_option maxHeartbeats 4000000 in
theorem rmay1 (S SC : Nat → Prop) (B : Nat) (G : PGraph) (nv ev rv iv : Value) (c : PCat) (o : POp) (w : World) (h : GraphRd 86 S w B G) (hG : GInv G) (hc : CatR SC w nv ev rv iv c) (hk : o.kind = 1) :
    Calls Tryz.prog 46 #[.pointer (some ⟨B, 0, none⟩), c.arg nv ev rv iv, o.args] w fun e w' => e = .returned (.int .i64 (mayG c o G)) ∧ Grow w w' := by
  have HGR := Lib.hid h; have HI := Lib.hid hG; have HC := Lib.hid hc
  have HM := Lib.hid (mayG_1 (c := c) (G := G) hk)
  obtain ⟨kind, id, typ, from_, to_, name, v, cascade⟩ := o
  subst hk
  obtain ⟨na, nc, ea, ec, ra, rc, ia, ic, rfl, rfl, rfl, rfl⟩ := hc.slices
  have HW := Lib.hid (show ∀ o1 o2, Grow w ((w.alloc o1).alloc o2) from fun o1 o2 => ((Grow.rfl' w).allocd o1).allocd o2)
  have HBX := Lib.hid (boxes w (.slice na c.nodes.length nc) (.slice ea c.edges.length ec) (.slice ra c.rules.length rc) (.slice ia c.indexes.length ic) c ⟨1, id, typ, from_, to_, name, v, cascade⟩)
  obtain ⟨gna, gnc, gea, gec, hB, g0, g1, g2, -, -⟩ := h.read
  have hB2 : B < w.heap.size + 1 + 1 := by omega
  have HLN := Lib.hid hG.items
  have hwr : IntKind.i64.wrap ((G.nodes.length : Int) + (G.edges.length : Int)) = (G.nodes.length : Int) + (G.edges.length : Int) := by have := hG.items; rw [IntKind.wrap_i64]; omega
  clear h hc hG
  go_enter Tryz.func46, Tryz.ntmps46
  obtain ⟨f, hfd⟩ : ∃ f, f = fullG G := ⟨_, rfl⟩
  have HF := Lib.hid hfd
  by_cases hs : 1024 ≤ G.nodes.length + G.edges.length
  case' pos =>
    have hd : decide (1024 ≤ (G.nodes.length : Int) + (G.edges.length : Int)) = true := decide_eq_true (by omega)
    obtain rfl : f = true := by rw [hfd]; unfold fullG; rw [decide_eq_true hs]; rfl
  case' neg =>
    have hd : decide (1024 ≤ (G.nodes.length : Int) + (G.edges.length : Int)) = false := decide_eq_false (by omega)
    have hf2 : decide (4611686018427387903 < G.next) = f := by rw [hfd]; unfold fullG; rw [decide_eq_false hs]; rfl
  all_goals
    clear hs hfd
    go_wp2_with fail
    refine wp_region_grow (by kernel_rfl) (by kernel_rfl) ?_
    repeat (go_big_quiet_step (fail))
    refine wpQuiet_nil ?_
    intro w2 hg2
    have HG2 := Lib.hid ((HW.out _ _).step hg2); have HA2 := Lib.hid hg2
    obtain ⟨hl1, k0, k1, k2, k3, k4⟩ := (HBX.out.1.grow hg2).at
    obtain ⟨hl2, c0, c1, c2, c3, c4, c5, c6, c7, c8, c9⟩ := (HBX.out.2.grow hg2).at
    clear hg2 g0 g1 g2 hB hB2 hd
    try clear hf2
    go_wp2_with fail
    refine (refHas SC _ _ _ _ c 1 typ _ (HC.out.grow (HG2.out))).mono ?_
    rintro e w3 ⟨rfl, hg⟩
    have HG3 := Lib.hid (HG2.out.step hg); clear hg
    cases ht : memS typ (c.typesOf 1)
    · have HX := Lib.hid (show mayG c ⟨1, id, typ, from_, to_, name, v, cascade⟩ G = 140 by rw [HM.out, if_pos (show memS typ c.nodes = false from ht)]); clear ht
      go_wp2
      go_ret
      exact ⟨by rw [HX.out]; rfl, HG3.out⟩
    · have HFX := Lib.hid (show ∀ b, fullG G = b → mayG c ⟨1, id, typ, from_, to_, name, v, cascade⟩ G = if b = true then 50 else 0 from fun b hb => by rw [HM.out, if_neg (by rw [show memS typ c.nodes = true from ht]; simp), hb]); clear ht
      first
      | (cases f
         · have HX := Lib.hid (HFX.out false HF.out.symm)
           go_wp2
           go_ret
           exact ⟨by rw [HX.out]; rfl, HG3.out⟩
         · have HX := Lib.hid (HFX.out true HF.out.symm)
           go_wp2
           go_ret
           exact ⟨by rw [HX.out]; rfl, HG3.out⟩)
      | (have HX := Lib.hid (HFX.out true HF.out.symm)
         go_wp2
         go_ret
         exact ⟨by rw [HX.out]; rfl, HG3.out⟩)

set_option maxRecDepth 100000 in
set_option maxHeartbeats 4000000 in
theorem rmay2 (S SC : Nat → Prop) (B : Nat) (G : PGraph) (nv ev rv iv : Value) (c : PCat) (o : POp) (w : World) (h : GraphRd 86 S w B G) (hG : GInv G) (hc : CatR SC w nv ev rv iv c) (hk : o.kind = 2) :
    Calls Tryz.prog 46 #[.pointer (some ⟨B, 0, none⟩), c.arg nv ev rv iv, o.args] w fun e w' => e = .returned (.int .i64 (mayG c o G)) ∧ Grow w w' := by
  have HGR := Lib.hid h; have HI := Lib.hid hG; have HC := Lib.hid hc
  have HM := Lib.hid (mayG_2 (c := c) (G := G) hk)
  obtain ⟨kind, id, typ, from_, to_, name, v, cascade⟩ := o
  subst hk
  obtain ⟨na, nc, ea, ec, ra, rc, ia, ic, rfl, rfl, rfl, rfl⟩ := hc.slices
  have HW := Lib.hid (show ∀ o1 o2, Grow w ((w.alloc o1).alloc o2) from fun o1 o2 => ((Grow.rfl' w).allocd o1).allocd o2)
  have HBX := Lib.hid (boxes w (.slice na c.nodes.length nc) (.slice ea c.edges.length ec) (.slice ra c.rules.length rc) (.slice ia c.indexes.length ic) c ⟨2, id, typ, from_, to_, name, v, cascade⟩)
  obtain ⟨gna, gnc, gea, gec, hB, g0, g1, g2, -, -⟩ := h.read
  have hB2 : B < w.heap.size + 1 + 1 := by omega
  have HLN := Lib.hid hG.items
  have hwr : IntKind.i64.wrap ((G.nodes.length : Int) + (G.edges.length : Int)) = (G.nodes.length : Int) + (G.edges.length : Int) := by have := hG.items; rw [IntKind.wrap_i64]; omega
  clear h hc hG
  go_enter Tryz.func46, Tryz.ntmps46
  obtain ⟨f, hfd⟩ : ∃ f, f = fullG G := ⟨_, rfl⟩
  have HF := Lib.hid hfd
  by_cases hs : 1024 ≤ G.nodes.length + G.edges.length
  case' pos =>
    have hd : decide (1024 ≤ (G.nodes.length : Int) + (G.edges.length : Int)) = true := decide_eq_true (by omega)
    obtain rfl : f = true := by rw [hfd]; unfold fullG; rw [decide_eq_true hs]; rfl
  case' neg =>
    have hd : decide (1024 ≤ (G.nodes.length : Int) + (G.edges.length : Int)) = false := decide_eq_false (by omega)
    have hf2 : decide (4611686018427387903 < G.next) = f := by rw [hfd]; unfold fullG; rw [decide_eq_false hs]; rfl
  all_goals
    clear hs hfd
    go_wp2_with fail
    refine wp_region_grow (by kernel_rfl) (by kernel_rfl) ?_
    repeat (go_big_quiet_step (fail))
    refine wpQuiet_nil ?_
    intro w2 hg2
    have HG2 := Lib.hid ((HW.out _ _).step hg2); have HA2 := Lib.hid hg2
    obtain ⟨hl1, k0, k1, k2, k3, k4⟩ := (HBX.out.1.grow hg2).at
    obtain ⟨hl2, c0, c1, c2, c3, c4, c5, c6, c7, c8, c9⟩ := (HBX.out.2.grow hg2).at
    clear hg2 g0 g1 g2 hB hB2 hd
    try clear hf2
    go_wp2_with fail
    refine (refNode S B G id _ (HGR.out.grow HG2.out)).mono ?_
    rintro e w3 ⟨rfl, rfl⟩
    cases hN : hasN G id
    · have HX := Lib.hid (show mayG c ⟨2, id, typ, from_, to_, name, v, cascade⟩ G = 60 by rw [HM.out, if_pos hN])
      rw [idxZ_none (f := fun x : PNode => x.id) hN]
      clear hN
      go_wp2
      go_ret
      exact ⟨by rw [HX.out]; rfl, HG2.out⟩
    · have HNN := Lib.hid hN
      obtain ⟨k, x, hz, hkl, hx, hid⟩ := idxZ_some (f := fun x : PNode => x.id) hN
      rw [hz]
      have hk0 : decide ((k : Int) < 0) = false := decide_eq_false (by omega)
      clear hN hz hkl hx hid
      go_wp2_with fail
      refine (refAt S B G id _ (HGR.out.grow HG2.out) (by have := HLN.out; omega)).mono ?_
      rintro e w4 ⟨v4, ob4, rfl, ho4, -, hg4⟩
      have HG4 := Lib.hid (HG2.out.step hg4)
      obtain ⟨o4, co4, rfl, -, -⟩ := ho4.isSlice
      obtain ⟨hl2', d0, d1, d2, d3, d4, d5, d6, d7, d8, d9⟩ := ((HBX.out.2.grow HA2.out).grow hg4).at
      have hpos := atG_pos G id
      have hposN : decide (0 < (atG G id).length) = G.edges.any fun x => atE x id := by rw [← hpos]; simp
      clear ho4 hg4 c0 c1 c2 c3 c4 c5 c6 c7 c8 c9
      cases ha : G.edges.any fun x => atE x id
      · rw [ha] at hpos hposN
        have HX := Lib.hid (show mayG c ⟨2, id, typ, from_, to_, name, v, cascade⟩ G = 0 by rw [HM.out, if_neg (by rw [HNN.out]; simp), if_neg (by rintro ⟨-, h⟩; rw [show (G.edges.any fun x => atE x id) = false from ha] at h; cases h)]); clear ha
        go_wp2
        go_ret
        exact ⟨by rw [HX.out]; rfl, HG4.out⟩
      · rw [ha] at hpos hposN
        cases hcs : cascade
        · subst hcs
          have HX := Lib.hid (show mayG c ⟨2, id, typ, from_, to_, name, v, false⟩ G = 160 by rw [HM.out, if_neg (by rw [HNN.out]; simp), if_pos ⟨rfl, ha⟩]); clear ha
          go_wp2
          go_ret
          exact ⟨by rw [HX.out]; rfl, HG4.out⟩
        · subst hcs
          have HX := Lib.hid (show mayG c ⟨2, id, typ, from_, to_, name, v, true⟩ G = 0 by rw [HM.out, if_neg (by rw [HNN.out]; simp), if_neg (by simp)]); clear ha
          go_wp2
          go_ret
          exact ⟨by rw [HX.out]; rfl, HG4.out⟩

set_option maxRecDepth 100000 in
set_option maxHeartbeats 4000000 in
theorem rmay3 (S SC : Nat → Prop) (B : Nat) (G : PGraph) (nv ev rv iv : Value) (c : PCat) (o : POp) (w : World) (h : GraphRd 86 S w B G) (hG : GInv G) (hc : CatR SC w nv ev rv iv c) (hk : o.kind = 3) :
    Calls Tryz.prog 46 #[.pointer (some ⟨B, 0, none⟩), c.arg nv ev rv iv, o.args] w fun e w' => e = .returned (.int .i64 (mayG c o G)) ∧ Grow w w' := by
  have HGR := Lib.hid h; have HI := Lib.hid hG; have HC := Lib.hid hc
  have HM := Lib.hid (mayG_3 (c := c) (G := G) hk)
  obtain ⟨kind, id, typ, from_, to_, name, v, cascade⟩ := o
  subst hk
  obtain ⟨na, nc, ea, ec, ra, rc, ia, ic, rfl, rfl, rfl, rfl⟩ := hc.slices
  have HW := Lib.hid (show ∀ o1 o2, Grow w ((w.alloc o1).alloc o2) from fun o1 o2 => ((Grow.rfl' w).allocd o1).allocd o2)
  have HBX := Lib.hid (boxes w (.slice na c.nodes.length nc) (.slice ea c.edges.length ec) (.slice ra c.rules.length rc) (.slice ia c.indexes.length ic) c ⟨3, id, typ, from_, to_, name, v, cascade⟩)
  obtain ⟨gna, gnc, gea, gec, hB, g0, g1, g2, -, -⟩ := h.read
  have hB2 : B < w.heap.size + 1 + 1 := by omega
  have HLN := Lib.hid hG.items
  have hwr : IntKind.i64.wrap ((G.nodes.length : Int) + (G.edges.length : Int)) = (G.nodes.length : Int) + (G.edges.length : Int) := by have := hG.items; rw [IntKind.wrap_i64]; omega
  clear h hc hG
  go_enter Tryz.func46, Tryz.ntmps46
  obtain ⟨f, hfd⟩ : ∃ f, f = fullG G := ⟨_, rfl⟩
  have HF := Lib.hid hfd
  by_cases hs : 1024 ≤ G.nodes.length + G.edges.length
  case' pos =>
    have hd : decide (1024 ≤ (G.nodes.length : Int) + (G.edges.length : Int)) = true := decide_eq_true (by omega)
    obtain rfl : f = true := by rw [hfd]; unfold fullG; rw [decide_eq_true hs]; rfl
  case' neg =>
    have hd : decide (1024 ≤ (G.nodes.length : Int) + (G.edges.length : Int)) = false := decide_eq_false (by omega)
    have hf2 : decide (4611686018427387903 < G.next) = f := by rw [hfd]; unfold fullG; rw [decide_eq_false hs]; rfl
  all_goals
    clear hs hfd
    go_wp2_with fail
    refine wp_region_grow (by kernel_rfl) (by kernel_rfl) ?_
    repeat (go_big_quiet_step (fail))
    refine wpQuiet_nil ?_
    intro w2 hg2
    have HG2 := Lib.hid ((HW.out _ _).step hg2); have HA2 := Lib.hid hg2
    obtain ⟨hl1, k0, k1, k2, k3, k4⟩ := (HBX.out.1.grow hg2).at
    obtain ⟨hl2, c0, c1, c2, c3, c4, c5, c6, c7, c8, c9⟩ := (HBX.out.2.grow hg2).at
    clear hg2 g0 g1 g2 hB hB2 hd
    try clear hf2
    go_wp2_with fail
    refine (refHas SC _ _ _ _ c 2 typ _ (HC.out.grow (HG2.out))).mono ?_
    rintro e w3 ⟨rfl, hg⟩
    have HG3 := Lib.hid (HG2.out.step hg); have HA3 := Lib.hid hg
    obtain ⟨hl2', d0, d1, d2, d3, d4, d5, d6, d7, d8, d9⟩ := ((HBX.out.2.grow HA2.out).grow hg).at
    clear hg c0 c1 c2 c3 c4 c5 c6 c7 c8 c9
    cases ht : memS typ (c.typesOf 2)
    · have HX := Lib.hid (show mayG c ⟨3, id, typ, from_, to_, name, v, cascade⟩ G = 140 by rw [HM.out, if_pos (show memS typ c.edges = false from ht)]); clear ht
      go_wp2
      go_ret
      exact ⟨by rw [HX.out]; rfl, HG3.out⟩
    · have HT := Lib.hid (show memS typ c.edges = true from ht); clear ht
      go_wp2_with fail
      refine (refNode S B G from_ _ (HGR.out.grow HG3.out)).mono ?_
      rintro e w4 ⟨rfl, rfl⟩
      cases hN : hasN G from_
      · have HX := Lib.hid (show mayG c ⟨3, id, typ, from_, to_, name, v, cascade⟩ G = 141 by rw [HM.out, if_neg (by rw [HT.out]; simp), if_pos (.inl hN)])
        rw [idxZ_none (f := fun x : PNode => x.id) hN]
        clear hN
        go_wp2
        go_ret
        exact ⟨by rw [HX.out]; rfl, HG3.out⟩
      · have HNN := Lib.hid hN
        obtain ⟨k, x, hz, hkl, hx, hid⟩ := idxZ_some (f := fun x : PNode => x.id) hN
        rw [hz]
        have hk0 : decide ((k : Int) < 0) = false := decide_eq_false (by omega)
        clear hN hz hkl hx hid
        go_wp2_with fail
        refine (refNode S B G to_ _ (HGR.out.grow HG3.out)).mono ?_
        rintro e w4 ⟨rfl, rfl⟩
        cases hN : hasN G to_
        · have HX := Lib.hid (show mayG c ⟨3, id, typ, from_, to_, name, v, cascade⟩ G = 141 by rw [HM.out, if_neg (by rw [HT.out]; simp), if_pos (.inr hN)])
          rw [idxZ_none (f := fun x : PNode => x.id) hN]
          clear hN
          go_wp2
          go_ret
          exact ⟨by rw [HX.out]; rfl, HG3.out⟩
        · have HFX := Lib.hid (show ∀ b, fullG G = b → mayG c ⟨3, id, typ, from_, to_, name, v, cascade⟩ G = if b = true then 50 else 0 from fun b hb => by rw [HM.out, if_neg (by rw [HT.out]; simp), if_neg (by rw [HNN.out, hN]; simp), hb])
          obtain ⟨k', x', hz, hkl, hx, hid⟩ := idxZ_some (f := fun x : PNode => x.id) hN
          rw [hz]
          have hk0' : decide ((k' : Int) < 0) = false := decide_eq_false (by omega)
          clear hN hz hkl hx hid
          first
          | (cases f
             · have HX := Lib.hid (HFX.out false HF.out.symm)
               go_wp2
               go_ret
               exact ⟨by rw [HX.out]; rfl, HG3.out⟩
             · have HX := Lib.hid (HFX.out true HF.out.symm)
               go_wp2
               go_ret
               exact ⟨by rw [HX.out]; rfl, HG3.out⟩)
          | (have HX := Lib.hid (HFX.out true HF.out.symm)
             go_wp2
             go_ret
             exact ⟨by rw [HX.out]; rfl, HG3.out⟩)

set_option maxRecDepth 100000 in
set_option maxHeartbeats 4000000 in
theorem rmay4 (S SC : Nat → Prop) (B : Nat) (G : PGraph) (nv ev rv iv : Value) (c : PCat) (o : POp) (w : World) (h : GraphRd 86 S w B G) (hG : GInv G) (hc : CatR SC w nv ev rv iv c) (hk : o.kind = 4) :
    Calls Tryz.prog 46 #[.pointer (some ⟨B, 0, none⟩), c.arg nv ev rv iv, o.args] w fun e w' => e = .returned (.int .i64 (mayG c o G)) ∧ Grow w w' := by
  have HGR := Lib.hid h; have HI := Lib.hid hG; have HC := Lib.hid hc
  have HM := Lib.hid (mayG_4 (c := c) (G := G) hk)
  obtain ⟨kind, id, typ, from_, to_, name, v, cascade⟩ := o
  subst hk
  obtain ⟨na, nc, ea, ec, ra, rc, ia, ic, rfl, rfl, rfl, rfl⟩ := hc.slices
  have HW := Lib.hid (show ∀ o1 o2, Grow w ((w.alloc o1).alloc o2) from fun o1 o2 => ((Grow.rfl' w).allocd o1).allocd o2)
  have HBX := Lib.hid (boxes w (.slice na c.nodes.length nc) (.slice ea c.edges.length ec) (.slice ra c.rules.length rc) (.slice ia c.indexes.length ic) c ⟨4, id, typ, from_, to_, name, v, cascade⟩)
  obtain ⟨gna, gnc, gea, gec, hB, g0, g1, g2, -, -⟩ := h.read
  have hB2 : B < w.heap.size + 1 + 1 := by omega
  have HLN := Lib.hid hG.items
  have hwr : IntKind.i64.wrap ((G.nodes.length : Int) + (G.edges.length : Int)) = (G.nodes.length : Int) + (G.edges.length : Int) := by have := hG.items; rw [IntKind.wrap_i64]; omega
  clear h hc hG
  go_enter Tryz.func46, Tryz.ntmps46
  obtain ⟨f, hfd⟩ : ∃ f, f = fullG G := ⟨_, rfl⟩
  have HF := Lib.hid hfd
  by_cases hs : 1024 ≤ G.nodes.length + G.edges.length
  case' pos =>
    have hd : decide (1024 ≤ (G.nodes.length : Int) + (G.edges.length : Int)) = true := decide_eq_true (by omega)
    obtain rfl : f = true := by rw [hfd]; unfold fullG; rw [decide_eq_true hs]; rfl
  case' neg =>
    have hd : decide (1024 ≤ (G.nodes.length : Int) + (G.edges.length : Int)) = false := decide_eq_false (by omega)
    have hf2 : decide (4611686018427387903 < G.next) = f := by rw [hfd]; unfold fullG; rw [decide_eq_false hs]; rfl
  all_goals
    clear hs hfd
    go_wp2_with fail
    refine wp_region_grow (by kernel_rfl) (by kernel_rfl) ?_
    repeat (go_big_quiet_step (fail))
    refine wpQuiet_nil ?_
    intro w2 hg2
    have HG2 := Lib.hid ((HW.out _ _).step hg2); have HA2 := Lib.hid hg2
    obtain ⟨hl1, k0, k1, k2, k3, k4⟩ := (HBX.out.1.grow hg2).at
    obtain ⟨hl2, c0, c1, c2, c3, c4, c5, c6, c7, c8, c9⟩ := (HBX.out.2.grow hg2).at
    clear hg2 g0 g1 g2 hB hB2 hd
    try clear hf2
    go_wp2_with fail
    refine (refEdge S B G id _ (HGR.out.grow HG2.out)).mono ?_
    rintro e w3 ⟨rfl, rfl⟩
    cases hN : hasE G id
    · have HX := Lib.hid (show mayG c ⟨4, id, typ, from_, to_, name, v, cascade⟩ G = 60 by rw [HM.out, if_pos hN])
      rw [idxZ_none (f := fun x : PEdge => x.id) hN]
      clear hN
      go_wp2
      go_ret
      exact ⟨by rw [HX.out]; rfl, HG2.out⟩
    · have HX := Lib.hid (show mayG c ⟨4, id, typ, from_, to_, name, v, cascade⟩ G = 0 by rw [HM.out, if_neg (by rw [show hasE G id = true from hN]; simp)])
      obtain ⟨k, x, hz, hkl, hx, hid⟩ := idxZ_some (f := fun x : PEdge => x.id) hN
      rw [hz]
      have hk0 : decide ((k : Int) < 0) = false := decide_eq_false (by omega)
      clear hN hz hkl hx hid
      go_wp2
      go_ret
      exact ⟨by rw [HX.out]; rfl, HG2.out⟩

theorem findP_len {G : PGraph} {id : Int} {ps : List PProp} (hG : GInv G) (h : findP G id = some ps) : ps.length ≤ 8 := by
  unfold findP at h
  cases hn : G.nodes.find? fun x => decide (x.id = id) with
  | some x => rw [hn] at h; simp only [Option.some.injEq] at h; subst h; exact (hG.nodesB x (List.mem_of_find?_eq_some hn)).2.2
  | none =>
    rw [hn] at h
    cases he : G.edges.find? fun x => decide (x.id = id) with
    | some x => rw [he] at h; simp only [Option.some.injEq] at h; subst h; exact (hG.edgesB x (List.mem_of_find?_eq_some he)).2.2
    | none => rw [he] at h; simp at h
set_option maxRecDepth 100000 in
set_option maxHeartbeats 4000000 in
theorem rmay5 (S SC : Nat → Prop) (B : Nat) (G : PGraph) (nv ev rv iv : Value) (c : PCat) (o : POp) (w : World) (h : GraphRd 86 S w B G) (hG : GInv G) (hc : CatR SC w nv ev rv iv c) (hk : o.kind = 5) :
    Calls Tryz.prog 46 #[.pointer (some ⟨B, 0, none⟩), c.arg nv ev rv iv, o.args] w fun e w' => e = .returned (.int .i64 (mayG c o G)) ∧ Grow w w' := by
  have HGR := Lib.hid h; have HI := Lib.hid hG; have HC := Lib.hid hc
  obtain ⟨kind, id, typ, from_, to_, name, v, cascade⟩ := o
  subst hk
  obtain ⟨na, nc, ea, ec, ra, rc, ia, ic, rfl, rfl, rfl, rfl⟩ := hc.slices
  have HW := Lib.hid (show ∀ o1 o2, Grow w ((w.alloc o1).alloc o2) from fun o1 o2 => ((Grow.rfl' w).allocd o1).allocd o2)
  have HBX := Lib.hid (boxes w (.slice na c.nodes.length nc) (.slice ea c.edges.length ec) (.slice ra c.rules.length rc) (.slice ia c.indexes.length ic) c ⟨5, id, typ, from_, to_, name, v, cascade⟩)
  obtain ⟨gna, gnc, gea, gec, hB, g0, g1, g2, -, -⟩ := h.read
  have hB2 : B < w.heap.size + 1 + 1 := by omega
  have HLN := Lib.hid hG.items
  have hwr : IntKind.i64.wrap ((G.nodes.length : Int) + (G.edges.length : Int)) = (G.nodes.length : Int) + (G.edges.length : Int) := by have := hG.items; rw [IntKind.wrap_i64]; omega
  clear h hc hG
  go_enter Tryz.func46, Tryz.ntmps46
  obtain ⟨f, hfd⟩ : ∃ f, f = fullG G := ⟨_, rfl⟩
  have HF := Lib.hid hfd
  by_cases hs : 1024 ≤ G.nodes.length + G.edges.length
  case' pos =>
    have hd : decide (1024 ≤ (G.nodes.length : Int) + (G.edges.length : Int)) = true := decide_eq_true (by omega)
    obtain rfl : f = true := by rw [hfd]; unfold fullG; rw [decide_eq_true hs]; rfl
  case' neg =>
    have hd : decide (1024 ≤ (G.nodes.length : Int) + (G.edges.length : Int)) = false := decide_eq_false (by omega)
    have hf2 : decide (4611686018427387903 < G.next) = f := by rw [hfd]; unfold fullG; rw [decide_eq_false hs]; rfl
  all_goals
    clear hs hfd
    go_wp2_with fail
    refine wp_region_grow (by kernel_rfl) (by kernel_rfl) ?_
    repeat (go_big_quiet_step (fail))
    refine wpQuiet_nil ?_
    intro w2 hg2
    have HG2 := Lib.hid ((HW.out _ _).step hg2); have HA2 := Lib.hid hg2
    obtain ⟨hl1, k0, k1, k2, k3, k4⟩ := (HBX.out.1.grow hg2).at
    obtain ⟨hl2, c0, c1, c2, c3, c4, c5, c6, c7, c8, c9⟩ := (HBX.out.2.grow hg2).at
    clear hg2 g0 g1 g2 hB hB2 hd
    try clear hf2
    go_wp2_with fail
    refine (refName name _).mono ?_
    rintro e w3 ⟨rfl, rfl⟩
    cases hN : decide (NameOk name)
    · have HX := Lib.hid (show mayG c ⟨5, id, typ, from_, to_, name, v, cascade⟩ G = 142 from mayG_5b rfl (.inl (of_decide_eq_false hN))); clear hN
      go_wp2
      go_ret
      exact ⟨by rw [HX.out]; rfl, HG2.out⟩
    · have HNN := Lib.hid (of_decide_eq_true hN); clear hN
      go_wp2_with fail
      refine (refGoodV v _).mono ?_
      rintro e w4 ⟨rfl, hg⟩
      have HG4 := Lib.hid (HG2.out.step hg); have HA4 := Lib.hid (HA2.out.step hg)
      obtain ⟨hl2', d0, d1, d2, d3, d4, d5, d6, d7, d8, d9⟩ := ((HBX.out.2.grow HA2.out).grow hg).at
      clear hg c0 c1 c2 c3 c4 c5 c6 c7 c8 c9
      cases hgd : decide (GoodV v)
      · have HGD := Lib.hid (of_decide_eq_false hgd); clear hgd
        go_wp2_with fail
        refine (refBlank v _).mono ?_
        rintro e w5 ⟨rfl, hg⟩
        have HG5 := Lib.hid (HG4.out.step hg)
        obtain ⟨hl3', e0, e1, e2, e3, e4, e5, e6, e7, e8, e9⟩ := ((HBX.out.2.grow HA4.out).grow hg).at
        clear hg d0 d1 d2 d3 d4 d5 d6 d7 d8 d9
        cases hbl : decide (BlankV v)
        · have HX := Lib.hid (show mayG c ⟨5, id, typ, from_, to_, name, v, cascade⟩ G = 142 from mayG_5b rfl (.inr ⟨HGD.out, of_decide_eq_false hbl⟩)); clear hbl
          go_wp2
          go_ret
          exact ⟨by rw [HX.out]; rfl, HG5.out⟩
        · have HBL := Lib.hid (of_decide_eq_true hbl); clear hbl
          have HIF := Lib.hid (show ¬ (¬ NameOk name ∨ (¬ GoodV v ∧ ¬ BlankV v)) from fun h => h.elim (fun h => h HNN.out) (fun h => h.2 HBL.out))
          go_wp2_with fail
          refine (refProps S B G id _ (HGR.out.grow HG5.out) HI.out.nodes HI.out.edges).mono ?_
          rintro e w6 ⟨hp, rfl⟩
          rcases hp with ⟨hf, rfl⟩ | ⟨ps, pv, hf, rfl, hp⟩
          · have HX := Lib.hid (show mayG c ⟨5, id, typ, from_, to_, name, v, cascade⟩ G = 60 from mayG_5n rfl HIF.out hf); clear hf
            go_wp2
            go_ret
            exact ⟨by rw [HX.out]; rfl, HG5.out⟩
          · have HP := Lib.hid hp
            obtain ⟨pa, pc, rfl⟩ := hp.isSlice
            have HL8 := Lib.hid (findP_len HI.out hf)
            have HX0 := Lib.hid (show mayG c ⟨5, id, typ, from_, to_, name, v, cascade⟩ G = if 8 < (setP ps name v).length then 3 else 0 from mayG_5s rfl HIF.out hf)
            clear hf hp
            go_wp2_with fail
            refine (refSet S _ ps name v _ HP.out (by have := HL8.out; omega)).mono ?_
            rintro e w7 ⟨v7, rfl, h7, hg7⟩
            have HG7 := Lib.hid (HG5.out.step hg7)
            obtain ⟨a7, k7, rfl⟩ := h7.isSlice
            clear h7 hg7
            by_cases h8 : 8 < (setP ps name v).length
            · have hd8 : decide ((8 : Int) < ((setP ps name v).length : Int)) = true := decide_eq_true (by omega)
              have HX := Lib.hid (show mayG c ⟨5, id, typ, from_, to_, name, v, cascade⟩ G = 3 by rw [HX0.out, if_pos h8]); clear h8
              go_wp2
              go_ret
              exact ⟨by rw [HX.out]; rfl, HG7.out⟩
            · have hd8 : decide ((8 : Int) < ((setP ps name v).length : Int)) = false := decide_eq_false (by omega)
              have HX := Lib.hid (show mayG c ⟨5, id, typ, from_, to_, name, v, cascade⟩ G = 0 by rw [HX0.out, if_neg h8]); clear h8
              go_wp2
              go_ret
              exact ⟨by rw [HX.out]; rfl, HG7.out⟩
      · have HGD := Lib.hid (of_decide_eq_true hgd); clear hgd
        have HIF := Lib.hid (show ¬ (¬ NameOk name ∨ (¬ GoodV v ∧ ¬ BlankV v)) from fun h => h.elim (fun h => h HNN.out) (fun h => h.1 HGD.out))
        go_wp2_with fail
        refine (refProps S B G id _ (HGR.out.grow HG4.out) HI.out.nodes HI.out.edges).mono ?_
        rintro e w6 ⟨hp, rfl⟩
        rcases hp with ⟨hf, rfl⟩ | ⟨ps, pv, hf, rfl, hp⟩
        · have HX := Lib.hid (show mayG c ⟨5, id, typ, from_, to_, name, v, cascade⟩ G = 60 from mayG_5n rfl HIF.out hf); clear hf
          go_wp2
          go_ret
          exact ⟨by rw [HX.out]; rfl, HG4.out⟩
        · have HP := Lib.hid hp
          obtain ⟨pa, pc, rfl⟩ := hp.isSlice
          have HL8 := Lib.hid (findP_len HI.out hf)
          have HX0 := Lib.hid (show mayG c ⟨5, id, typ, from_, to_, name, v, cascade⟩ G = if 8 < (setP ps name v).length then 3 else 0 from mayG_5s rfl HIF.out hf)
          clear hf hp
          go_wp2_with fail
          refine (refSet S _ ps name v _ HP.out (by have := HL8.out; omega)).mono ?_
          rintro e w7 ⟨v7, rfl, h7, hg7⟩
          have HG7 := Lib.hid (HG4.out.step hg7)
          obtain ⟨a7, k7, rfl⟩ := h7.isSlice
          clear h7 hg7
          by_cases h8 : 8 < (setP ps name v).length
          · have hd8 : decide ((8 : Int) < ((setP ps name v).length : Int)) = true := decide_eq_true (by omega)
            have HX := Lib.hid (show mayG c ⟨5, id, typ, from_, to_, name, v, cascade⟩ G = 3 by rw [HX0.out, if_pos h8]); clear h8
            go_wp2
            go_ret
            exact ⟨by rw [HX.out]; rfl, HG7.out⟩
          · have hd8 : decide ((8 : Int) < ((setP ps name v).length : Int)) = false := decide_eq_false (by omega)
            have HX := Lib.hid (show mayG c ⟨5, id, typ, from_, to_, name, v, cascade⟩ G = 0 by rw [HX0.out, if_neg h8]); clear h8
            go_wp2
            go_ret
            exact ⟨by rw [HX.out]; rfl, HG7.out⟩

set_option maxRecDepth 100000 in
set_option maxHeartbeats 4000000 in
theorem rmay0 (S SC : Nat → Prop) (B : Nat) (G : PGraph) (nv ev rv iv : Value) (c : PCat) (o : POp) (w : World) (h : GraphRd 86 S w B G) (hG : GInv G) (hc : CatR SC w nv ev rv iv c) (h1 : o.kind ≠ 1) (h2 : o.kind ≠ 2) (h3 : o.kind ≠ 3) (h4 : o.kind ≠ 4) (h5 : o.kind ≠ 5) :
    Calls Tryz.prog 46 #[.pointer (some ⟨B, 0, none⟩), c.arg nv ev rv iv, o.args] w fun e w' => e = .returned (.int .i64 (mayG c o G)) ∧ Grow w w' := by
  have HGR := Lib.hid h; have HI := Lib.hid hG; have HC := Lib.hid hc
  have HM := Lib.hid (mayG_0 (c := c) (G := G) h1 h2 h3 h4 h5)
  obtain ⟨kind, id, typ, from_, to_, name, v, cascade⟩ := o
  obtain ⟨na, nc, ea, ec, ra, rc, ia, ic, rfl, rfl, rfl, rfl⟩ := hc.slices
  have HW := Lib.hid (show ∀ o1 o2, Grow w ((w.alloc o1).alloc o2) from fun o1 o2 => ((Grow.rfl' w).allocd o1).allocd o2)
  have HBX := Lib.hid (boxes w (.slice na c.nodes.length nc) (.slice ea c.edges.length ec) (.slice ra c.rules.length rc) (.slice ia c.indexes.length ic) c ⟨kind, id, typ, from_, to_, name, v, cascade⟩)
  obtain ⟨gna, gnc, gea, gec, hB, g0, g1, g2, -, -⟩ := h.read
  have hB2 : B < w.heap.size + 1 + 1 := by omega
  have q1 : (kind == 1) = false := by simpa using h1
  have q2 : (kind == 2) = false := by simpa using h2
  have q3 : (kind == 3) = false := by simpa using h3
  have q4 : (kind == 4) = false := by simpa using h4
  have q5 : (kind == 5) = false := by simpa using h5
  have HLN := Lib.hid hG.items
  have hwr : IntKind.i64.wrap ((G.nodes.length : Int) + (G.edges.length : Int)) = (G.nodes.length : Int) + (G.edges.length : Int) := by have := hG.items; rw [IntKind.wrap_i64]; omega
  clear h hc hG h1 h2 h3 h4 h5
  go_enter Tryz.func46, Tryz.ntmps46
  obtain ⟨f, hfd⟩ : ∃ f, f = fullG G := ⟨_, rfl⟩
  have HF := Lib.hid hfd
  by_cases hs : 1024 ≤ G.nodes.length + G.edges.length
  case' pos =>
    have hd : decide (1024 ≤ (G.nodes.length : Int) + (G.edges.length : Int)) = true := decide_eq_true (by omega)
    obtain rfl : f = true := by rw [hfd]; unfold fullG; rw [decide_eq_true hs]; rfl
  case' neg =>
    have hd : decide (1024 ≤ (G.nodes.length : Int) + (G.edges.length : Int)) = false := decide_eq_false (by omega)
    have hf2 : decide (4611686018427387903 < G.next) = f := by rw [hfd]; unfold fullG; rw [decide_eq_false hs]; rfl
  all_goals
    clear hs hfd
    go_wp2_with fail
    refine wp_region_grow (by kernel_rfl) (by kernel_rfl) ?_
    repeat (go_big_quiet_step (fail))
    refine wpQuiet_nil ?_
    intro w2 hg2
    have HG2 := Lib.hid ((HW.out _ _).step hg2); have HA2 := Lib.hid hg2
    obtain ⟨hl1, k0, k1, k2, k3, k4⟩ := (HBX.out.1.grow hg2).at
    obtain ⟨hl2, c0, c1, c2, c3, c4, c5, c6, c7, c8, c9⟩ := (HBX.out.2.grow hg2).at
    clear hg2 g0 g1 g2 hB hB2 hd
    try clear hf2
    go_wp2
    go_ret
    exact ⟨by rw [HM.out]; rfl, HG2.out⟩

theorem refMay (S SC : Nat → Prop) (B : Nat) (G : PGraph) (nv ev rv iv : Value) (c : PCat) (o : POp) (w : World) (h : GraphRd 86 S w B G) (hG : GInv G) (hc : CatR SC w nv ev rv iv c) :
    Calls Tryz.prog 46 #[.pointer (some ⟨B, 0, none⟩), c.arg nv ev rv iv, o.args] w fun e w' => e = .returned (.int .i64 (mayG c o G)) ∧ Grow w w' := by
  by_cases h1 : o.kind = 1
  · exact rmay1 S SC B G nv ev rv iv c o w h hG hc h1
  by_cases h2 : o.kind = 2
  · exact rmay2 S SC B G nv ev rv iv c o w h hG hc h2
  by_cases h3 : o.kind = 3
  · exact rmay3 S SC B G nv ev rv iv c o w h hG hc h3
  by_cases h4 : o.kind = 4
  · exact rmay4 S SC B G nv ev rv iv c o w h hG hc h4
  by_cases h5 : o.kind = 5
  · exact rmay5 S SC B G nv ev rv iv c o w h hG hc h5
  exact rmay0 S SC B G nv ev rv iv c o w h hG hc h1 h2 h3 h4 h5
end Go.Hg
