/- hedgerowlaw17.GraphCopies: true. No condition. Printed by gencopies.py. -/
import Derived.Test.YtcokiflkjnekeaaPair
import Derived.Test.YtcokiflkjnekeaaOver
import Derived.Test.YtcokiflkjnekeaaPlain
import Derived.Test.YtcokiflkjnekeaaCopy
import Derived.Test.YtcokiflkjnekeaaLawB
namespace Go.Hg
open Go.RowKit Go.Proofs

/-- what is told by a copy is overwritten: nodes -/
theorem wr_lo {lo : Nat} {w w' : World} (h : Mod (fun b => lo ≤ b) w w') {b : Nat} (hb : lo ≤ b) (o : Nat) (u : Value) : Mod (fun b => lo ≤ b) w (w'.setCell ⟨b, o, none⟩ u) := h.setd (p := ⟨b, o, none⟩) (.inl hb) u

set_option maxRecDepth 100000 in
set_option maxHeartbeats 8000000 in
theorem lawCopies (S : Nat → Prop) (v : Value) (l : List POp) (S' : Nat → Prop) (v' : Value) (more : List POp) (w : World) (hl : OpsR S w v l) (hm : OpsR S' w v' more) :
    Calls Try.prog 4 #[v, v'] w fun e w' => e = .returned (.bool true) ∧ Grow w w' := by
  have HL := Lib.hid hl; have HMO := Lib.hid hm
  obtain ⟨aa, ca, rfl, hal, hac, hA⟩ := SlR.open hl
  obtain ⟨ab, cb, rfl, hbl, hbc, hB⟩ := SlR.open hm
  clear hl hm
  unfold maxLen at hac hbc
  have HA := Lib.hid hA; have HB := Lib.hid hB; clear hA hB
  go_enter Try.func4, Try.ntmps4
  go_wp2_with fail
  refine (lawFair S _ l _ HL.out).mono ?_
  rintro e w1 ⟨rfl, hg1⟩
  have HG1 := Lib.hid hg1
  clear hg1
  cases hf : fairOps l
  · clear hf
    go_wp2_with fail
    refine (lawWakes _).mono ?_
    rintro e w2 ⟨rfl, hg2⟩
    have HG2 := Lib.hid (HG1.out.step hg2); clear hg2
    go_wp2
    go_ret
    exact ⟨rfl, HG2.out⟩
  clear hf
  go_wp2_with fail
  refine (lawFair S' _ more _ (HMO.out.growS HG1.out)).mono ?_
  rintro e w2 ⟨rfl, hg2⟩
  have HG2 := Lib.hid (HG1.out.step hg2)
  clear hg2
  cases hf : fairOps more
  · clear hf
    go_wp2_with fail
    refine (lawWakes _).mono ?_
    rintro e w3 ⟨rfl, hg3⟩
    have HG3 := Lib.hid (HG2.out.step hg3); clear hg3
    go_wp2
    go_ret
    exact ⟨rfl, HG3.out⟩
  clear hf
  go_wp2_with fail
  refine (graphNew _).mono ?_
  rintro e w3 ⟨B1, rfl, hgr, hg3⟩
  have HGR3 := Lib.hid hgr; have HG3 := Lib.hid hg3
  clear hgr hg3
  go_wp2_with fail
  refine (refNew _).mono ?_
  rintro e w4 ⟨B2, rfl, hgr, hg4⟩
  have HPR := Lib.hid (Pair.make HGR3.out HG3.out hgr hg4)
  clear hgr hg4 HGR3 HG3
  go_wp2
  go_loopg [7] l.length (fun g i wr => ∃ (k : Nat) (G : PGraph), k ≤ l.length ∧ g = l.length - k ∧ i = .int .i64 k ∧ goodG G = true ∧ Pair 81 88 w2 wr B1 B2 G G)
  case atStart => exact ⟨0, PGraph.empty, by omega, by omega, rfl, goodG_empty, HPR.out⟩
  case round =>
    obtain ⟨k, G, hk, rfl, rfl, hgood, hpr⟩ := hrel
    have HGOOD := Lib.hid hgood; have HP := Lib.hid hpr
    clear hgood hpr HPR
    by_cases hkl : k < l.length
    · obtain ⟨ba, oa, ra, rfl, hSa, hba, hRa, hca⟩ := HA.out k l[k] (List.getElem?_eq_getElem hkl)
      have HS := Lib.hid (show ∀ w', Grow w w' → (w'.cell? ⟨ba, oa + k * 10, none⟩ = some (.int .i64 l[k].kind) ∧ w'.cell? ⟨ba, oa + k * 10 + 1, none⟩ = some (.int .i64 l[k].id) ∧ w'.cell? ⟨ba, oa + k * 10 + 2, none⟩ = some (.string l[k].typ) ∧ w'.cell? ⟨ba, oa + k * 10 + 3, none⟩ = some (.int .i64 l[k].from_) ∧ w'.cell? ⟨ba, oa + k * 10 + 4, none⟩ = some (.int .i64 l[k].to_) ∧ w'.cell? ⟨ba, oa + k * 10 + 5, none⟩ = some (.string l[k].name) ∧ w'.cell? ⟨ba, oa + k * 10 + 6, none⟩ = some (.int .i64 l[k].v.kind) ∧ w'.cell? ⟨ba, oa + k * 10 + 7, none⟩ = some (.int .i64 l[k].v.n) ∧ w'.cell? ⟨ba, oa + k * 10 + 8, none⟩ = some (.string l[k].v.s) ∧ w'.cell? ⟨ba, oa + k * 10 + 9, none⟩ = some (.bool l[k].cascade)) from fun w' hg' => (opCells hRa hba hg' hca).2)
      clear hca hRa hSa hba
      generalize l[k] = o at *
      have HI := Lib.hid (goodG_inv HGOOD.out)
      have HD := Lib.hid (show Grow w2 wr.drew from HP.out.grown.drewd)
      have HPD := Lib.hid (HP.out.grow ((Grow.rfl' wr).drewd))
      go_wp2_with fail
      go_region_held3 (fun w' => w'.cell? ⟨ba, oa + k * 10, none⟩ = some (.int .i64 o.kind) ∧ w'.cell? ⟨ba, oa + k * 10 + 1, none⟩ = some (.int .i64 o.id) ∧ w'.cell? ⟨ba, oa + k * 10 + 2, none⟩ = some (.string o.typ) ∧ w'.cell? ⟨ba, oa + k * 10 + 3, none⟩ = some (.int .i64 o.from_) ∧ w'.cell? ⟨ba, oa + k * 10 + 4, none⟩ = some (.int .i64 o.to_) ∧ w'.cell? ⟨ba, oa + k * 10 + 5, none⟩ = some (.string o.name) ∧ w'.cell? ⟨ba, oa + k * 10 + 6, none⟩ = some (.int .i64 o.v.kind) ∧ w'.cell? ⟨ba, oa + k * 10 + 7, none⟩ = some (.int .i64 o.v.n) ∧ w'.cell? ⟨ba, oa + k * 10 + 8, none⟩ = some (.string o.v.s) ∧ w'.cell? ⟨ba, oa + k * 10 + 9, none⟩ = some (.bool o.cascade)) (first | exact HS.out _ (HG2.out.step HD.out) | exact HS.out _ (HG2.out.step HT3.out) | exact HS.out _ (HG2.out.step HP4.out.grown)) (first | (go_at_call 13; refine (lawTypes _).mono ?_; rintro e wt3 ⟨nv, ev, rfl, hc, hg3⟩; have HC := Lib.hid hc; have HT3 := Lib.hid (HD.out.step hg3); have HTG3 := Lib.hid hg3; obtain ⟨na, nc, ea, ec, ra, rc, ia, ic, rfl, rfl, -, -⟩ := hc.slices; clear hc hg3) | (go_at_call 12; refine (pairDo1 _ B1 B2 G G _ _ _ _ typesC o w2 _ (HPD.out.grow HTG3.out) HI.out HC.out).mono ?_; rintro e wd4 ⟨rfl, hp4⟩; have HP4 := Lib.hid hp4; clear hp4; generalize (if mayG typesC o G = 0 then idG o G else 0) = rid; generalize mayG typesC o G = rer))
      have HD5 := Lib.hid (show Grow w2 wd4.drew from HP4.out.grown.drewd)
      have HPD5 := Lib.hid (HP4.out.grow ((Grow.rfl' wd4).drewd))
      go_wp2_with fail
      go_region_held3 (fun w' => w'.cell? ⟨ba, oa + k * 10, none⟩ = some (.int .i64 o.kind) ∧ w'.cell? ⟨ba, oa + k * 10 + 1, none⟩ = some (.int .i64 o.id) ∧ w'.cell? ⟨ba, oa + k * 10 + 2, none⟩ = some (.string o.typ) ∧ w'.cell? ⟨ba, oa + k * 10 + 3, none⟩ = some (.int .i64 o.from_) ∧ w'.cell? ⟨ba, oa + k * 10 + 4, none⟩ = some (.int .i64 o.to_) ∧ w'.cell? ⟨ba, oa + k * 10 + 5, none⟩ = some (.string o.name) ∧ w'.cell? ⟨ba, oa + k * 10 + 6, none⟩ = some (.int .i64 o.v.kind) ∧ w'.cell? ⟨ba, oa + k * 10 + 7, none⟩ = some (.int .i64 o.v.n) ∧ w'.cell? ⟨ba, oa + k * 10 + 8, none⟩ = some (.string o.v.s) ∧ w'.cell? ⟨ba, oa + k * 10 + 9, none⟩ = some (.bool o.cascade)) (first | exact HS.out _ (HG2.out.step HD5.out) | exact HS.out _ (HG2.out.step HT5.out) | exact HS.out _ (HG2.out.step HP6.out.grown)) (first | (go_at_call 13; refine (lawTypes _).mono ?_; rintro e wt5 ⟨nv, ev, rfl, hc, hg3⟩; have HC := Lib.hid hc; have HT5 := Lib.hid (HD5.out.step hg3); have HTG5 := Lib.hid hg3; obtain ⟨na, nc, ea, ec, ra, rc, ia, ic, rfl, rfl, -, -⟩ := hc.slices; clear hc hg3) | (go_at_call 19; refine (pairDo2 _ B1 B2 (stepG typesC o G) G _ _ _ _ typesC o w2 _ (HPD5.out.grow HTG5.out) HI.out HC.out).mono ?_; rintro e wd6 ⟨rfl, hp6⟩; have HP6 := Lib.hid hp6; clear hp6; generalize (if mayG typesC o G = 0 then idG o G else 0) = rid2; generalize mayG typesC o G = rer2))
      have HGOOD4 := Lib.hid (goodG_step (o := o) typesC_names HGOOD.out)
      generalize stepG typesC o G = G4 at *
      go_wp2_with fail
      go_roundg (l.length - (k + 1))
      case measure => omega
      case rel => exact ⟨k + 1, G4, by omega, rfl, by go_num, HGOOD4.out, HP6.out⟩
    · obtain ⟨S1, S2, h1, h2, h3, h4, h5, h6⟩ := HP.out
      have HI := Lib.hid (goodG_inv HGOOD.out)
      have H1 := Lib.hid h1; have H2 := Lib.hid h2; have H3 := Lib.hid h3; have H4 := Lib.hid h4; have H5 := Lib.hid h5; have H6 := Lib.hid (HG2.out.step h6)
      have HNL := Lib.hid (show G.nodes.length ≤ 1099511627776 by have := HI.out.items; omega)
      have HEL := Lib.hid (show G.edges.length ≤ 1099511627776 by have := HI.out.items; omega)
      have HNP := Lib.hid (show ∀ x ∈ G.nodes, x.props.length ≤ 1099511627776 from fun x hx => by have := (HI.out.nodesB x hx).2.2; omega)
      have HEP := Lib.hid (show ∀ x ∈ G.edges, x.props.length ≤ 1099511627776 from fun x hx => by have := (HI.out.edgesB x hx).2.2; omega)
      clear h1 h2 h3 h4 h5 h6 HP
      go_wp2_with fail
      refine (graphCopy S1 B1 G _ H1.out.rd HNL.out HEL.out HNP.out HEP.out).mono ?_
      rintro e w5 ⟨B3, rfl, hgr, hg5⟩
      have HG5 := Lib.hid hg5
      have HC3 := Lib.hid hgr.cut
      have HQ5 := Lib.hid (H2.out.grow hg5)
      have HGA := Lib.hid ((H1.out.grow hg5).sub (S' := fun b => S1 b ∨ w5.heap.size ≤ b) (fun b hb => .inl hb))
      have H65 := Lib.hid (H6.out.step hg5)
      clear hgr hg5
      rename_i wk _ _ _ _ _
      go_wp2
      go_loopg [9] more.length (fun g i wz => ∃ (j : Nat) (G' : PGraph), j ≤ more.length ∧ g = more.length - j ∧ i = .int .i64 j ∧ GInv G' ∧ GraphOk 81 (fun b => S1 b ∨ w5.heap.size ≤ b) wz B1 G' ∧ Mod S1 w5 wz)
      case atStart => exact ⟨0, G, by omega, by omega, rfl, HI.out, HGA.out, Mod.rfl' _ _⟩
      case round =>
        obtain ⟨j, G', hj, rfl, rfl, hi', hga, hmj⟩ := hrel
        have HI' := Lib.hid hi'; have HGJ := Lib.hid hga; have HMJ := Lib.hid hmj
        clear hi' hga hmj
        have HGJW := Lib.hid (H65.out.modd HMJ.out (fun b hb => Nat.le_trans HG2.out.size (H4.out b hb).1))
        by_cases hkl : j < more.length
        · obtain ⟨ba, oa, ra, rfl, hSa, hba, hRa, hca⟩ := HB.out j more[j] (List.getElem?_eq_getElem hkl)
          have HS := Lib.hid (show ∀ w', Grow w w' → (w'.cell? ⟨ba, oa + j * 10, none⟩ = some (.int .i64 more[j].kind) ∧ w'.cell? ⟨ba, oa + j * 10 + 1, none⟩ = some (.int .i64 more[j].id) ∧ w'.cell? ⟨ba, oa + j * 10 + 2, none⟩ = some (.string more[j].typ) ∧ w'.cell? ⟨ba, oa + j * 10 + 3, none⟩ = some (.int .i64 more[j].from_) ∧ w'.cell? ⟨ba, oa + j * 10 + 4, none⟩ = some (.int .i64 more[j].to_) ∧ w'.cell? ⟨ba, oa + j * 10 + 5, none⟩ = some (.string more[j].name) ∧ w'.cell? ⟨ba, oa + j * 10 + 6, none⟩ = some (.int .i64 more[j].v.kind) ∧ w'.cell? ⟨ba, oa + j * 10 + 7, none⟩ = some (.int .i64 more[j].v.n) ∧ w'.cell? ⟨ba, oa + j * 10 + 8, none⟩ = some (.string more[j].v.s) ∧ w'.cell? ⟨ba, oa + j * 10 + 9, none⟩ = some (.bool more[j].cascade)) from fun w' hg' => (opCells hRa hba hg' hca).2)
          clear hca hRa hSa hba
          generalize more[j] = o at *
          have HD := Lib.hid (show Grow w wr.drew from HGJW.out.drewd)
          have HGD := Lib.hid (HGJ.out.grow ((Grow.rfl' wr).drewd))
          go_wp2_with fail
          go_region_held3 (fun w' => w'.cell? ⟨ba, oa + j * 10, none⟩ = some (.int .i64 o.kind) ∧ w'.cell? ⟨ba, oa + j * 10 + 1, none⟩ = some (.int .i64 o.id) ∧ w'.cell? ⟨ba, oa + j * 10 + 2, none⟩ = some (.string o.typ) ∧ w'.cell? ⟨ba, oa + j * 10 + 3, none⟩ = some (.int .i64 o.from_) ∧ w'.cell? ⟨ba, oa + j * 10 + 4, none⟩ = some (.int .i64 o.to_) ∧ w'.cell? ⟨ba, oa + j * 10 + 5, none⟩ = some (.string o.name) ∧ w'.cell? ⟨ba, oa + j * 10 + 6, none⟩ = some (.int .i64 o.v.kind) ∧ w'.cell? ⟨ba, oa + j * 10 + 7, none⟩ = some (.int .i64 o.v.n) ∧ w'.cell? ⟨ba, oa + j * 10 + 8, none⟩ = some (.string o.v.s) ∧ w'.cell? ⟨ba, oa + j * 10 + 9, none⟩ = some (.bool o.cascade)) (first | exact HS.out _ HD.out | exact HS.out _ HT3.out | exact HS.out _ HW6.out) (first | (go_at_call 13; refine (lawTypes _).mono ?_; rintro e wt3 ⟨nv, ev, rfl, hc, hg3⟩; have HC := Lib.hid hc; have HT3 := Lib.hid (HD.out.step hg3); have HTG3 := Lib.hid hg3; obtain ⟨na, nc, ea, ec, ra, rc, ia, ic, rfl, rfl, -, -⟩ := hc.slices; clear hc hg3) | (go_at_call 12; refine (graphDo _ _ B1 G' _ _ _ _ typesC o _ (HGD.out.grow HTG3.out) HI'.out HC.out).mono ?_; rintro e wd6 ⟨rfl, hgr6, hm6⟩; have HGR6 := Lib.hid hgr6; have HM6 := Lib.hid ((Mod.of_grow ((Grow.rfl' wr).drewd)).step ((Mod.of_grow HTG3.out).step hm6)); have HW6 := Lib.hid (HT3.out.modd hm6 (fun b hb => hb.elim (fun h => Nat.le_trans HG2.out.size (H4.out b h).1) (fun h => Nat.le_trans H65.out.size h))); clear hgr6 hm6; generalize (if mayG typesC o G' = 0 then idG o G' else 0) = rid; generalize mayG typesC o G' = rer))
          have HI6 := Lib.hid (HI'.out.stepG (c := typesC) (o := o))
          generalize stepG typesC o G' = G6 at *
          go_wp2_with fail
          go_roundg (more.length - (j + 1))
          case measure => omega
          case rel => exact ⟨j + 1, G6, by omega, rfl, by go_num, HI6.out, HGR6.out.sub (fun b hb => hb.elim (fun h => h) (fun h => .inr (Nat.le_trans HMJ.out.size (Nat.le_trans ((Grow.rfl' _).drewd).size (Nat.le_trans HTG3.out.size h))))), HMJ.out.step' HM6.out (fun b hb => hb)⟩
        · have HM5 := Lib.hid HMJ.out
          have HC7 := Lib.hid (HC3.out.keep HM5.out (fun b hb hb' => by have := (H4.out b hb').2; have := hb.1; omega))
          have HQ7 := Lib.hid (HQ5.out.keep HM5.out (fun b hb hb' => H3.out b hb' hb))
          have HQL := Lib.hid (show ∀ b, S2 b → b < w5.heap.size from fun b hb => Nat.lt_of_lt_of_le (H5.out b hb).2 HG5.out.size)
          have HW7 := Lib.hid HGJW.out
          clear HGJ HGJW HMJ HGA
          obtain ⟨w7, hw7⟩ : ∃ x, x = wr := ⟨_, rfl⟩
          rw [← hw7] at HM5 HC7 HQ7 HW7 ⊢
          clear hw7
          go_wp2_with fail
          refine (graphNodesO _ B3 G _ HC7.out.rd HNL.out HNP.out).mono ?_
          rintro e w8 ⟨v8, on, rfl, hon, hon2, hg8⟩
          obtain ⟨a8, c8, rfl, hl8, hc8⟩ : ∃ a c, v8 = .slice a G.nodes.length c ∧ G.nodes.length ≤ c ∧ c ≤ maxLen := by obtain ⟨_, _, _, h⟩ := hon; obtain ⟨oa, cap, h, h1, h2⟩ := h.isSlice; exact ⟨oa, cap, h, h1, h2⟩
          have HON := Lib.hid (overV_nodes hon hon2); have HG8 := Lib.hid hg8
          clear hon hon2 hg8
          go_wp2_with fail
          refine (graphEdgesO _ B3 G _ (HC7.out.grow HG8.out).rd HEL.out HEP.out).mono ?_
          rintro e w9 ⟨v9, oe, rfl, hoe, hoe2, hg9⟩
          obtain ⟨a9, c9, rfl, hl9, hc9⟩ : ∃ a c, v9 = .slice a G.edges.length c ∧ G.edges.length ≤ c ∧ c ≤ maxLen := by obtain ⟨_, _, _, h⟩ := hoe; obtain ⟨oa, cap, h, h1, h2⟩ := h.isSlice; exact ⟨oa, cap, h, h1, h2⟩
          unfold maxLen at hc8 hc9
          have HOE := Lib.hid (overV_edges hoe hoe2); have HG9 := Lib.hid (HG8.out.step hg9)
          have HON9 := Lib.hid (HON.out.grow hg9)
          clear hoe hoe2 hg9
          go_wp2
          go_loopg [12] G.nodes.length (fun gg i wz => ∃ p : Nat, p ≤ G.nodes.length ∧ gg = G.nodes.length - p ∧ i = .int .i64 p ∧ OverV 3 2 w7.heap.size w8.heap.size a8 G.nodes.length p wz ∧ OverV 5 4 w8.heap.size w9.heap.size a9 G.edges.length 0 wz ∧ Mod (fun b => w7.heap.size ≤ b) w7 wz)
          case atStart => exact ⟨0, by omega, by omega, rfl, HON9.out, HOE.out, (Mod.of_grow HG9.out)⟩
          case round =>
            obtain ⟨p, hp, rfl, rfl, hov, hoe, hmz⟩ := hrel
            have HMP := Lib.hid hmz
            have HOVP := Lib.hid hov
            have HOEP := Lib.hid hoe
            clear hov hmz hoe
            by_cases hpl : p < G.nodes.length
            · obtain ⟨g, rfl, hov⟩ := HOVP.out (by omega)
              have hgb := hov.2.1
              have hglo : w7.heap.size ≤ g := Nat.le_trans (Nat.le_refl _) hgb.1
              have hgl : g < w8.heap.size := hgb.2
              obtain ⟨pa, pl, pc, hcell, hpl1, hpl2, hpb⟩ := hov.2.2 p (Nat.le_refl _) hpl
              have HOV0 := Lib.hid hov; have HPB0 := Lib.hid hpb; have HHD0 := Lib.hid hcell
              have hgw := hov.1.lt
              unfold maxLen at hpl2
              clear hov hpb
              go_wp2
              clear hcell hgw
              go_loopg [13] pl (fun gg i wz => ∃ q : Nat, q ≤ pl ∧ gg = pl - q ∧ i = .int .i64 q ∧ Over 3 2 w7.heap.size w8.heap.size g G.nodes.length p wz ∧ OverV 5 4 w8.heap.size w9.heap.size a9 G.edges.length 0 wz ∧ wz.cell? ⟨g, p * 3 + 2, none⟩ = some (.slice pa pl pc) ∧
                (0 < pl → ∃ b, pa = some ⟨b, 0, none⟩ ∧ b ≠ g ∧ (w7.heap.size ≤ b ∧ b < w8.heap.size) ∧ Shape wz b (pl * 4)) ∧ Mod (fun b => w7.heap.size ≤ b) w7 wz)
              case atStart => exact ⟨0, by omega, by omega, rfl, HOV0.out, HOEP.out, HHD0.out, HPB0.out, HMP.out⟩
              case round =>
                obtain ⟨q, hq, rfl, rfl, hov, hoe, hcell, hpb, hmz⟩ := hrel
                have HOV := Lib.hid hov; have HMZ := Lib.hid hmz; have HHD := Lib.hid hcell
                have HOEJ := Lib.hid hoe
                have hgw := hov.1.lt
                clear hov hmz hoe
                by_cases hql : q < pl
                · obtain ⟨b, rfl, hbg, hbb, hsh⟩ := hpb (by omega)
                  have hblo : w7.heap.size ≤ b := Nat.le_trans (Nat.le_refl _) hbb.1
                  have hbl : b < w8.heap.size := hbb.2
                  have hbw := hsh.lt
                  obtain ⟨s0, hs0⟩ := hsh.cell (o := q * 4) (by omega)
                  have fs0 := hsh.free (q * 4)
                  obtain ⟨s1, hs1⟩ := hsh.cell (o := q * 4 + 1) (by omega)
                  have fs1 := hsh.free (q * 4 + 1)
                  obtain ⟨s2, hs2⟩ := hsh.cell (o := q * 4 + 2) (by omega)
                  have fs2 := hsh.free (q * 4 + 2)
                  obtain ⟨s3, hs3⟩ := hsh.cell (o := q * 4 + 3) (by omega)
                  have fs3 := hsh.free (q * 4 + 3)
                  have HSH := Lib.hid hsh
                  clear hpb hsh
                  go_wp2_with fail
                  go_roundg (pl - (q + 1))
                  case measure => omega
                  case rel =>
                    have hsh := HSH.out
                    exact ⟨q + 1, by omega, rfl, by go_num, ((((HOV.out.setP hbg _ _).setP hbg _ _).setP hbg _ _).setP hbg _ _), ((((HOEJ.out.setP hbl _ _).setP hbl _ _).setP hbl _ _).setP hbl _ _), (((cell_set_other hbg _ _ _).trans (cell_set_other hbg _ _ _)).trans ((cell_set_other hbg _ _ _).trans (cell_set_other hbg _ _ _))).trans HHD.out, fun _ => ⟨b, rfl, hbg, hbb, ((((hsh.set _ _ _).set _ _ _).set _ _ _).set _ _ _)⟩, (wr_lo (wr_lo (wr_lo (wr_lo HMZ.out hblo _ _) hblo _ _) hblo _ _) hblo _ _)⟩
                · clear hpb
                  obtain ⟨n0, hn0⟩ := HOV.out.1.cell (o := p * 3) (by omega)
                  have fn0 := HOV.out.1.free (p * 3)
                  obtain ⟨n1, hn1⟩ := HOV.out.1.cell (o := p * 3 + 1) (by omega)
                  have fn1 := HOV.out.1.free (p * 3 + 1)
                  obtain ⟨n2, hn2⟩ := HOV.out.1.cell (o := p * 3 + 2) (by omega)
                  have fn2 := HOV.out.1.free (p * 3 + 2)
                  go_wp2_with fail
                  go_roundg (G.nodes.length - (p + 1))
                  case measure => omega
                  case rel => exact ⟨p + 1, by omega, rfl, by go_num, fun _ => ⟨g, rfl, (((HOV.out.next.setN (fun j hj => by omega) _).setN (fun j hj => by omega) _).setN (fun j hj => by omega) _)⟩, (((HOEJ.out.setP hgl _ _).setP hgl _ _).setP hgl _ _), (wr_lo (wr_lo (wr_lo HMZ.out hglo _ _) hglo _ _) hglo _ _)⟩
            · skip
              go_wp2
              go_loopg [14] G.edges.length (fun gg i wz => ∃ p : Nat, p ≤ G.edges.length ∧ gg = G.edges.length - p ∧ i = .int .i64 p ∧ OverV 5 4 w8.heap.size w9.heap.size a9 G.edges.length p wz ∧ Mod (fun b => w7.heap.size ≤ b) w7 wz)
              case atStart => exact ⟨0, by omega, by omega, rfl, HOEP.out, HMP.out⟩
              case round =>
                obtain ⟨p, hp, rfl, rfl, hov, hmz⟩ := hrel
                have HMP := Lib.hid hmz
                have HOVP := Lib.hid hov
                skip
                clear hov hmz 
                by_cases hpl : p < G.edges.length
                · obtain ⟨g, rfl, hov⟩ := HOVP.out (by omega)
                  have hgb := hov.2.1
                  have hglo : w7.heap.size ≤ g := Nat.le_trans HG8.out.size hgb.1
                  skip
                  obtain ⟨pa, pl, pc, hcell, hpl1, hpl2, hpb⟩ := hov.2.2 p (Nat.le_refl _) hpl
                  have HOV0 := Lib.hid hov; have HPB0 := Lib.hid hpb; have HHD0 := Lib.hid hcell
                  have hgw := hov.1.lt
                  unfold maxLen at hpl2
                  clear hov hpb
                  go_wp2
                  clear hcell hgw
                  go_loopg [15] pl (fun gg i wz => ∃ q : Nat, q ≤ pl ∧ gg = pl - q ∧ i = .int .i64 q ∧ Over 5 4 w8.heap.size w9.heap.size g G.edges.length p wz ∧ wz.cell? ⟨g, p * 5 + 4, none⟩ = some (.slice pa pl pc) ∧
                    (0 < pl → ∃ b, pa = some ⟨b, 0, none⟩ ∧ b ≠ g ∧ (w8.heap.size ≤ b ∧ b < w9.heap.size) ∧ Shape wz b (pl * 4)) ∧ Mod (fun b => w7.heap.size ≤ b) w7 wz)
                  case atStart => exact ⟨0, by omega, by omega, rfl, HOV0.out, HHD0.out, HPB0.out, HMP.out⟩
                  case round =>
                    obtain ⟨q, hq, rfl, rfl, hov, hcell, hpb, hmz⟩ := hrel
                    have HOV := Lib.hid hov; have HMZ := Lib.hid hmz; have HHD := Lib.hid hcell
                    skip
                    have hgw := hov.1.lt
                    clear hov hmz 
                    by_cases hql : q < pl
                    · obtain ⟨b, rfl, hbg, hbb, hsh⟩ := hpb (by omega)
                      have hblo : w7.heap.size ≤ b := Nat.le_trans HG8.out.size hbb.1
                      skip
                      have hbw := hsh.lt
                      obtain ⟨s0, hs0⟩ := hsh.cell (o := q * 4) (by omega)
                      have fs0 := hsh.free (q * 4)
                      obtain ⟨s1, hs1⟩ := hsh.cell (o := q * 4 + 1) (by omega)
                      have fs1 := hsh.free (q * 4 + 1)
                      obtain ⟨s2, hs2⟩ := hsh.cell (o := q * 4 + 2) (by omega)
                      have fs2 := hsh.free (q * 4 + 2)
                      obtain ⟨s3, hs3⟩ := hsh.cell (o := q * 4 + 3) (by omega)
                      have fs3 := hsh.free (q * 4 + 3)
                      have HSH := Lib.hid hsh
                      clear hpb hsh
                      go_wp2_with fail
                      go_roundg (pl - (q + 1))
                      case measure => omega
                      case rel =>
                        have hsh := HSH.out
                        exact ⟨q + 1, by omega, rfl, by go_num, ((((HOV.out.setP hbg _ _).setP hbg _ _).setP hbg _ _).setP hbg _ _), (((cell_set_other hbg _ _ _).trans (cell_set_other hbg _ _ _)).trans ((cell_set_other hbg _ _ _).trans (cell_set_other hbg _ _ _))).trans HHD.out, fun _ => ⟨b, rfl, hbg, hbb, ((((hsh.set _ _ _).set _ _ _).set _ _ _).set _ _ _)⟩, (wr_lo (wr_lo (wr_lo (wr_lo HMZ.out hblo _ _) hblo _ _) hblo _ _) hblo _ _)⟩
                    · clear hpb
                      obtain ⟨n0, hn0⟩ := HOV.out.1.cell (o := p * 5) (by omega)
                      have fn0 := HOV.out.1.free (p * 5)
                      obtain ⟨n1, hn1⟩ := HOV.out.1.cell (o := p * 5 + 1) (by omega)
                      have fn1 := HOV.out.1.free (p * 5 + 1)
                      obtain ⟨n2, hn2⟩ := HOV.out.1.cell (o := p * 5 + 2) (by omega)
                      have fn2 := HOV.out.1.free (p * 5 + 2)
                      obtain ⟨n3, hn3⟩ := HOV.out.1.cell (o := p * 5 + 3) (by omega)
                      have fn3 := HOV.out.1.free (p * 5 + 3)
                      obtain ⟨n4, hn4⟩ := HOV.out.1.cell (o := p * 5 + 4) (by omega)
                      have fn4 := HOV.out.1.free (p * 5 + 4)
                      go_wp2_with fail
                      go_roundg (G.edges.length - (p + 1))
                      case measure => omega
                      case rel => exact ⟨p + 1, by omega, rfl, by go_num, fun _ => ⟨g, rfl, (((((HOV.out.next.setN (fun j hj => by omega) _).setN (fun j hj => by omega) _).setN (fun j hj => by omega) _).setN (fun j hj => by omega) _).setN (fun j hj => by omega) _)⟩, (wr_lo (wr_lo (wr_lo (wr_lo (wr_lo HMZ.out hglo _ _) hglo _ _) hglo _ _) hglo _ _) hglo _ _)⟩
                · skip
                  go_wp2_with fail
                  have h57 : w5.heap.size ≤ w7.heap.size := HM5.out.size
                  have HC8 := Lib.hid (HC7.out.keep HMP.out (fun b hb hb' => by have := hb.2; omega))
                  have HQ8 := Lib.hid (HQ7.out.keep HMP.out (fun b hb hb' => by have := HQL.out b hb; omega))
                  refine (lawSame _ _ B3 B2 G _ HC8.out HQ8.out HI.out).mono ?_
                  rintro e w11 ⟨rfl, hg11⟩
                  have HG11 := Lib.hid ((HW7.out.modd HMP.out (fun b hb => Nat.le_trans HW7.out.size hb)).step hg11)
                  clear hg11
                  go_wp2_with fail
                  refine (lawWakes _).mono ?_
                  rintro e w12 ⟨rfl, hg12⟩
                  have HG12 := Lib.hid (HG11.out.step hg12)
                  clear hg12
                  go_wp2
                  go_ret
                  exact ⟨rfl, HG12.out⟩
end Go.Hg
