/- hedgerowlaw17.GraphNear: true. No condition. Printed by gennear.py. -/
import Derived.Test.YtcokiflkjnekeaaNearP
import Derived.Test.YtcokiflkjnekeaaLawB
namespace Go.Hg
open Go.RowKit Go.Proofs

theorem IdsO.reads {w : World} {v : Value} {l : List Int} {ob : Option Nat} (h : IdsO w v l ob) : ∃ a cap, v = .slice a l.length cap ∧ l.length ≤ cap ∧ cap ≤ maxLen ∧
    ∀ (j : Nat) y, l[j]? = some y → ∃ b off, a = some ⟨b, off, none⟩ ∧ ∀ w', Grow w w' → b < w'.heap.size ∧ w'.cell? ⟨b, off + j, none⟩ = some (.int .i64 y) := by
  obtain ⟨a, cap, hv, h1, h2, hA⟩ := SlR.open (h.toR (S := fun _ => True) (fun _ _ => trivial))
  refine ⟨a, cap, hv, h1, h2, fun j y hy => ?_⟩
  obtain ⟨b, off, r, ha, -, hb, rfl, hc⟩ := hA j y hy
  refine ⟨b, off, ha, fun w' hg => ⟨Nat.lt_of_lt_of_le hb hg.size, ?_⟩⟩
  rw [hg.cell (p := ⟨b, off + j, none⟩) hb]
  have := hc 0 _ rfl
  rw [Nat.mul_one] at this
  exact this

set_option maxRecDepth 100000 in
set_option maxHeartbeats 8000000 in
theorem lawNear (S : Nat → Prop) (v : Value) (l : List POp) (w : World) (hl : OpsR S w v l) :
    Calls Try.prog 5 #[v] w fun e w' => e = .returned (.bool true) ∧ Grow w w' := by
  have HL := Lib.hid hl
  obtain ⟨aa, ca, rfl, hal, hac, hA⟩ := SlR.open hl
  clear hl
  unfold maxLen at hac
  have HA := Lib.hid hA; clear hA
  go_enter Try.func5, Try.ntmps5
  go_wp2_with fail
  refine (lawFair S _ l _ HL.out).mono ?_
  rintro e w1 ⟨rfl, hg1⟩
  have HG1 := Lib.hid hg1
  cases hf : fairOps l
  · clear hg1
    go_wp2_with fail
    refine (lawWakes _).mono ?_
    rintro e w2 ⟨rfl, hg2⟩
    have HG2 := Lib.hid (HG1.out.step hg2); clear hg2
    go_wp2
    go_ret
    exact ⟨rfl, HG2.out⟩
  · clear hf hg1
    go_wp2_with fail
    refine (graphNew _).mono ?_
    rintro e w2 ⟨B, rfl, hgr, hg2⟩
    have HGR2 := Lib.hid hgr; have HG2 := Lib.hid hg2
    clear hgr hg2
    go_wp2
    go_loopg [4] l.length (fun g i wr => ∃ (k : Nat) (G : PGraph), k ≤ l.length ∧ g = l.length - k ∧ i = .int .i64 k ∧ goodG G = true ∧ GraphOk 81 (fun b => w1.heap.size ≤ b) wr B G ∧ Grow w1 wr)
    case atStart => exact ⟨0, PGraph.empty, by omega, by omega, rfl, goodG_empty, HGR2.out, HG2.out⟩
    case round =>
      obtain ⟨k, G, hk, rfl, rfl, hgood, hgr, hg⟩ := hrel
      have HGOOD := Lib.hid hgood; have HGR := Lib.hid hgr; have HG := Lib.hid hg
      clear hgood hgr hg
      by_cases hkl : k < l.length
      · obtain ⟨ba, oa, ra, rfl, hSa, hba, hRa, hca⟩ := HA.out k l[k] (List.getElem?_eq_getElem hkl)
        have HS := Lib.hid (show ∀ w', Grow w w' → (w'.cell? ⟨ba, oa + k * 10, none⟩ = some (.int .i64 l[k].kind) ∧ w'.cell? ⟨ba, oa + k * 10 + 1, none⟩ = some (.int .i64 l[k].id) ∧ w'.cell? ⟨ba, oa + k * 10 + 2, none⟩ = some (.string l[k].typ) ∧ w'.cell? ⟨ba, oa + k * 10 + 3, none⟩ = some (.int .i64 l[k].from_) ∧ w'.cell? ⟨ba, oa + k * 10 + 4, none⟩ = some (.int .i64 l[k].to_) ∧ w'.cell? ⟨ba, oa + k * 10 + 5, none⟩ = some (.string l[k].name) ∧ w'.cell? ⟨ba, oa + k * 10 + 6, none⟩ = some (.int .i64 l[k].v.kind) ∧ w'.cell? ⟨ba, oa + k * 10 + 7, none⟩ = some (.int .i64 l[k].v.n) ∧ w'.cell? ⟨ba, oa + k * 10 + 8, none⟩ = some (.string l[k].v.s) ∧ w'.cell? ⟨ba, oa + k * 10 + 9, none⟩ = some (.bool l[k].cascade)) from fun w' hg' => (opCells hRa hba hg' hca).2)
        clear hca hRa hSa hba
        generalize l[k] = o at *
        have HD := Lib.hid (show Grow w1 wr.drew from HG.out.drewd)
        have HGRD := Lib.hid (HGR.out.grow ((Grow.rfl' wr).drewd))
        go_wp2_with fail
        go_region_held3 (fun w' => w'.cell? ⟨ba, oa + k * 10, none⟩ = some (.int .i64 o.kind) ∧ w'.cell? ⟨ba, oa + k * 10 + 1, none⟩ = some (.int .i64 o.id) ∧ w'.cell? ⟨ba, oa + k * 10 + 2, none⟩ = some (.string o.typ) ∧ w'.cell? ⟨ba, oa + k * 10 + 3, none⟩ = some (.int .i64 o.from_) ∧ w'.cell? ⟨ba, oa + k * 10 + 4, none⟩ = some (.int .i64 o.to_) ∧ w'.cell? ⟨ba, oa + k * 10 + 5, none⟩ = some (.string o.name) ∧ w'.cell? ⟨ba, oa + k * 10 + 6, none⟩ = some (.int .i64 o.v.kind) ∧ w'.cell? ⟨ba, oa + k * 10 + 7, none⟩ = some (.int .i64 o.v.n) ∧ w'.cell? ⟨ba, oa + k * 10 + 8, none⟩ = some (.string o.v.s) ∧ w'.cell? ⟨ba, oa + k * 10 + 9, none⟩ = some (.bool o.cascade)) (first | exact HS.out _ (HG1.out.step HD.out) | exact HS.out _ (HG1.out.step HD3.out) | exact HS.out _ (HG1.out.step HG4.out)) (first | (go_at_call 13; refine (lawTypes _).mono ?_; rintro e w3 ⟨nv, ev, rfl, hc, hg3⟩; have HC := Lib.hid hc; have HD3 := Lib.hid (HD.out.step hg3); have HG3 := Lib.hid hg3; obtain ⟨na, nc, ea, ec, ra, rc, ia, ic, rfl, rfl, -, -⟩ := hc.slices; clear hc hg3) | (go_at_call 12; refine (doOwn _ B G _ _ _ _ typesC o w1 _ HD3.out (HGRD.out.grow HG3.out) (goodG_inv HGOOD.out) HC.out).mono ?_; rintro e w4 ⟨rfl, hgr4, hg4⟩; have HGR4 := Lib.hid hgr4; have HG4 := Lib.hid hg4; clear hgr4 hg4; generalize (if mayG typesC o G = 0 then idG o G else 0) = rid; generalize mayG typesC o G = rer))
        have HGOOD4 := Lib.hid (goodG_step (o := o) typesC_names HGOOD.out)
        generalize stepG typesC o G = G4 at *
        go_wp2_with fail
        go_roundg (l.length - (k + 1))
        case measure => omega
        case rel => exact ⟨k + 1, G4, by omega, rfl, by go_num, HGOOD4.out, HGR4.out, HG4.out⟩
      · have HI := Lib.hid (goodG_inv HGOOD.out)
        have HX := Lib.hid (goodG_iff.1 HGOOD.out).2
        have HNL := Lib.hid (show G.nodes.length ≤ 1099511627776 by have := HI.out.items; omega)
        have HEL := Lib.hid (show G.edges.length ≤ 1099511627776 by have := HI.out.items; omega)
        have HEP := Lib.hid (show ∀ x ∈ G.edges, x.props.length ≤ 1099511627776 from fun x hx => by have := (HI.out.edgesB x hx).2.2; omega)
        go_wp2_with fail
        refine (graphNodes _ B G _ HGR.out.rd HNL.out (fun x hx => by have := (HI.out.nodesB x hx).2.2; omega)).mono ?_
        rintro e w5 ⟨v5, on, rfl, hon, -, hg5⟩
        have HG5 := Lib.hid (HG.out.step hg5)
        have HGR5 := Lib.hid (HGR.out.grow hg5)
        obtain ⟨a5, c5, rfl, hl5, hc5, hA5⟩ := SlR.open (show NodesR (fun b => on = some b ∨ wr.heap.size ≤ b) w5 v5 G.nodes from SlR.sub (hon.toSl (S := fun b => on = some b ∨ wr.heap.size ≤ b) (fun g hg => .inl hg)) (fun _ h => h) (fun x r _ hR => hR.sub (fun b hb => .inr hb.1)))
        have HA5 := Lib.hid hA5
        unfold maxLen at hc5
        clear hon hg5 hA5
        go_wp2_with fail
        refine (graphEdges _ B G _ HGR5.out.rd HEL.out HEP.out).mono ?_
        rintro e w6 ⟨v6, oe, rfl, hoe, -, hg6⟩
        have HG6 := Lib.hid (HG5.out.step hg6); have HGR6 := Lib.hid (HGR5.out.grow hg6)
        obtain ⟨a6, c6, rfl⟩ : ∃ a c, v6 = .slice a G.edges.length c := by obtain ⟨_, _, _, h⟩ := hoe; obtain ⟨oa, cap, h, _⟩ := h.isSlice; exact ⟨oa, cap, h⟩
        have HNA := Lib.hid (show ∀ (k : Nat) x, G.nodes[k]? = some x → ∃ b off, a5 = some ⟨b, off, none⟩ ∧ ∀ w', Grow w6 w' → b < w'.heap.size ∧ w'.cell? ⟨b, off + k * 3, none⟩ = some (.int .i64 x.id) from fun k x hx => by
          obtain ⟨b, off, r, ha, -, hb, ⟨pv, rfl, -⟩, hc⟩ := HA5.out k x hx
          refine ⟨b, off, ha, fun w' hg => ?_⟩
          have hgg := hg6.step hg
          refine ⟨Nat.lt_of_lt_of_le hb hgg.size, ?_⟩
          rw [hgg.cell (p := ⟨b, off + k * 3, none⟩) hb]
          exact hc 0 _ rfl)
        clear hoe hg6
        have HOUT := Lib.hid (endsAt_le (f := fun x => x.from_) HI.out.nodes (fun x hx => (HX.out.edges x hx).2.1))
        have HIN := Lib.hid (endsAt_le (f := fun x => x.to_) HI.out.nodes (fun x hx => (HX.out.edges x hx).2.2.1))
        have HIT := Lib.hid HI.out.items
        go_wp2
        go_loopg [7, 8, 9] G.nodes.length (fun g u v i wr => ∃ k : Nat, k ≤ G.nodes.length ∧ g = G.nodes.length - k ∧ u = .int .i64 (endsAt (fun x => x.from_) G k : Nat) ∧ v = .int .i64 (endsAt (fun x => x.to_) G k : Nat) ∧ i = .int .i64 k ∧ Grow w6 wr)
        case atStart => exact ⟨0, by omega, by omega, rfl, rfl, rfl, Grow.rfl' _⟩
        case round =>
          obtain ⟨k, hk, rfl, rfl, rfl, rfl, hgk⟩ := hrel
          have HGK0 := Lib.hid hgk
          clear hgk
          by_cases hkl : k < G.nodes.length
          · have HSO := Lib.hid (endsAt_succ (fun x => x.from_) G (List.getElem?_eq_getElem hkl))
            have HSI := Lib.hid (endsAt_succ (fun x => x.to_) G (List.getElem?_eq_getElem hkl))
            obtain ⟨bn, on', hn, hcn⟩ := HNA.out k G.nodes[k] (List.getElem?_eq_getElem hkl)
            cases hn
            have HNX := Lib.hid hcn
            clear hcn
            generalize G.nodes[k] = x at *
            have HUO := Lib.hid (some_up (p := fun y => decide (y.from_ = x.id)) HI.out.edges)
            have HUI := Lib.hid (some_up (p := fun y => decide (y.to_ = x.id)) HI.out.edges)
            have HTO := Lib.hid (show ∀ i ∈ someE G.edges ByteArray.empty (fun y => decide (y.from_ = x.id)), ∃ y, (G.edges.find? fun z => decide (z.id = i)) = some y ∧ y.from_ = x.id ∧ y.id = i from fun i hi => by
              obtain ⟨y, h1, h2, h3⟩ := some_at HI.out.edges hi
              exact ⟨y, h1, by simpa using h2, h3⟩)
            have HTI := Lib.hid (show ∀ i ∈ someE G.edges ByteArray.empty (fun y => decide (y.to_ = x.id)), ∃ y, (G.edges.find? fun z => decide (z.id = i)) = some y ∧ y.to_ = x.id ∧ y.id = i from fun i hi => by
              obtain ⟨y, h1, h2, h3⟩ := some_at HI.out.edges hi
              exact ⟨y, h1, by simpa using h2, h3⟩)
            have HCO := Lib.hid (graphOut (fun b => w1.heap.size ≤ b) B G x.id ByteArray.empty)
            have HCI := Lib.hid (graphIn (fun b => w1.heap.size ≤ b) B G x.id ByteArray.empty)
            generalize someE G.edges ByteArray.empty (fun y => decide (y.from_ = x.id)) = LO at *
            generalize someE G.edges ByteArray.empty (fun y => decide (y.to_ = x.id)) = LI at *
            have HD := Lib.hid (show Grow w6 wr.drew from HGK0.out.drewd)
            go_wp2_with fail
            go_region_held3 (fun w' => w'.cell? ⟨bn, on' + k * 3, none⟩ = some (.int .i64 x.id)) (first | exact (HNX.out _ HD.out).2 | exact (HNX.out _ HG8.out).2 | exact (HNX.out _ HG9.out).2) (first | (go_at_call 22; refine (HCO.out _ (HGR6.out.rd.grow HD.out) HEL.out).mono ?_; rintro e w8 ⟨v8, ob8, rfl, ho8, -, hg8⟩; have HO8 := Lib.hid ho8; have HG8 := Lib.hid (HD.out.step hg8); obtain ⟨o8, c8, rfl, -, -⟩ := ho8.isSlice; clear ho8 hg8) | (go_at_call 23; refine (HCI.out _ (HGR6.out.rd.grow HG8.out) HEL.out).mono ?_; rintro e w9 ⟨v9, ob9, rfl, ho9, -, hg9⟩; have HO9 := Lib.hid ho9; have HG89 := Lib.hid hg9; have HG9 := Lib.hid (HG8.out.step hg9); obtain ⟨o9, c9, rfl, -, -⟩ := ho9.isSlice; clear ho9 hg9))
            obtain ⟨_, _, hv8, hl8, hc8, hR8⟩ := IdsO.reads (OwnS.grow HO8.out HG89.out)
            simp only [Value.slice.injEq, true_and] at hv8
            obtain ⟨rfl, rfl⟩ := hv8
            obtain ⟨_, _, hv9, hl9, hc9, hR9⟩ := IdsO.reads HO9.out
            simp only [Value.slice.injEq, true_and] at hv9
            obtain ⟨rfl, rfl⟩ := hv9
            unfold maxLen at hc8 hc9
            have HR8 := Lib.hid hR8; have HR9 := Lib.hid hR9
            clear hR8 hR9 HD HGK0 HG8
            have hb1 := HOUT.out (k + 1)
            have hb2 := HIN.out (k + 1)
            have hb3 := HIT.out
            rw [HSO.out] at hb1
            rw [HSI.out] at hb2
            have hwo : IntKind.i64.wrap ((endsAt (fun x => x.from_) G k : Int) + (LO.length : Int)) = (endsAt (fun x => x.from_) G k : Int) + (LO.length : Int) := by rw [IntKind.wrap_i64]; omega
            have hwi : IntKind.i64.wrap ((endsAt (fun x => x.to_) G k : Int) + (LI.length : Int)) = (endsAt (fun x => x.to_) G k : Int) + (LI.length : Int) := by rw [IntKind.wrap_i64]; omega
            clear hb1 hb2 hb3
            go_wp2
            go_loopg [12] LO.length (fun g i wr => ∃ j : Nat, j ≤ LO.length ∧ g = LO.length - j ∧ i = .int .i64 j ∧ Grow w9 wr)
            case atStart => exact ⟨0, by omega, by omega, rfl, Grow.rfl' _⟩
            case round =>
              obtain ⟨j, hj, rfl, rfl, hgj⟩ := hrel
              have HGJO := Lib.hid hgj
              clear hgj
              by_cases hjl : j < LO.length
              · obtain ⟨bo, oo, ho, hcr⟩ := HR8.out j LO[j] (List.getElem?_eq_getElem hjl)
                cases ho
                obtain ⟨y, hyf, hye, hyi⟩ := HTO.out LO[j] (List.getElem_mem hjl)
                obtain ⟨hbo, hcj⟩ := hcr _ HGJO.out
                have HCR := Lib.hid hcr
                have HUP := Lib.hid (show ∀ m : Nat, m + 1 = j → ∃ p : Int, LO[m]? = some p ∧ p < LO[j] from fun m hm => ⟨LO[m], List.getElem?_eq_getElem (by omega), by have := List.pairwise_iff_getElem.1 HUO.out m j (by omega) hjl (by omega); exact this⟩)
                have HYF := Lib.hid hyf; have HYI := Lib.hid hyi
                generalize LO[j] = yi at *
                clear hyf hyi hcr
                go_wp2_with fail
                refine (graphGetEdge _ B G yi _ (HGR6.out.rd.grow (HG9.out.step HGJO.out)) HI.out.edges HEL.out HEP.out).mono ?_
                rintro e w10 ⟨hx, hg10⟩
                rcases hx with ⟨hx, -⟩ | ⟨y', pv, hx, rfl, hp⟩
                · rw [HYF.out] at hx; cases hx
                obtain rfl : y = y' := by rw [HYF.out] at hx; simpa using hx
                have HG10 := Lib.hid (HGJO.out.step hg10)
                obtain ⟨hbo10, hcj10⟩ := HCR.out _ HG10.out
                obtain ⟨hbn10, hcn10⟩ := HNX.out _ (HG9.out.step HG10.out)
                obtain ⟨pa, pc, rfl⟩ := hp.isSlice
                have HW := Lib.hid (show ∀ o1, Grow w10 (w10.alloc o1) from fun o1 => (Grow.rfl' w10).allocd o1)
                clear hp hg10 hx hcj hbo
                by_cases hj0 : j = 0
                · have hd0 : decide ((0 : Int) < (j : Int)) = false := decide_eq_false (by omega)
                  have hk00 : ¬ 0 < j := by omega
                  clear hj0
                  go_wp2_with fail
                  refine wp_region_grow (by kernel_rfl) (by kernel_rfl) ?_
                  repeat (go_big_quiet_step (fail))
                  refine wpQuiet_nil ?_
                  intro w12 hw12
                  go_wp2_with fail
                  go_roundg (LO.length - (j + 1))
                  case measure => omega
                  case rel => exact ⟨j + 1, by omega, rfl, by go_num, (HG10.out.step (HW.out _)).step hw12⟩
                · obtain ⟨m, rfl⟩ : ∃ m, j = m + 1 := ⟨j - 1, by omega⟩
                  obtain ⟨p, hp, hlt⟩ := HUP.out m rfl
                  obtain ⟨bo2, oo2, ho2, hcr2⟩ := HR8.out m p hp
                  cases ho2
                  obtain ⟨hbo2, hcm10⟩ := hcr2 _ HG10.out
                  have hd0 : decide ((0 : Int) < (m : Int) + 1) = true := decide_eq_true (by omega)
                  have hd1 : decide (yi ≤ p) = false := decide_eq_false (by omega)
                  have hws : IntKind.i64.wrap ((m : Int) + 1 - 1) = (m : Int) := by rw [IntKind.wrap_i64]; omega
                  clear hlt hp hcr2
                  go_wp2_with fail
                  refine wp_region_grow (by kernel_rfl) (by kernel_rfl) ?_
                  repeat (go_big_quiet_step (fail))
                  refine wpQuiet_nil ?_
                  intro w12 hw12
                  go_wp2_with fail
                  go_roundg (LO.length - (m + 1 + 1))
                  case measure => omega
                  case rel => exact ⟨m + 1 + 1, by omega, rfl, by go_num, (HG10.out.step (HW.out _)).step hw12⟩
              ·
                go_wp2
                go_loopg [15] LI.length (fun g i wr => ∃ j : Nat, j ≤ LI.length ∧ g = LI.length - j ∧ i = .int .i64 j ∧ Grow w9 wr)
                case atStart => exact ⟨0, by omega, by omega, rfl, HGJO.out⟩
                case round =>
                  obtain ⟨j, hj, rfl, rfl, hgj⟩ := hrel
                  have HGJI := Lib.hid hgj
                  clear hgj
                  by_cases hjl : j < LI.length
                  · obtain ⟨bo, oo, ho, hcr⟩ := HR9.out j LI[j] (List.getElem?_eq_getElem hjl)
                    cases ho
                    obtain ⟨y, hyf, hye, hyi⟩ := HTI.out LI[j] (List.getElem_mem hjl)
                    obtain ⟨hbo, hcj⟩ := hcr _ HGJI.out
                    have HCR := Lib.hid hcr
                    have HUP := Lib.hid (show ∀ m : Nat, m + 1 = j → ∃ p : Int, LI[m]? = some p ∧ p < LI[j] from fun m hm => ⟨LI[m], List.getElem?_eq_getElem (by omega), by have := List.pairwise_iff_getElem.1 HUI.out m j (by omega) hjl (by omega); exact this⟩)
                    have HYF := Lib.hid hyf; have HYI := Lib.hid hyi
                    generalize LI[j] = yi at *
                    clear hyf hyi hcr
                    go_wp2_with fail
                    refine (graphGetEdge _ B G yi _ (HGR6.out.rd.grow (HG9.out.step HGJI.out)) HI.out.edges HEL.out HEP.out).mono ?_
                    rintro e w10 ⟨hx, hg10⟩
                    rcases hx with ⟨hx, -⟩ | ⟨y', pv, hx, rfl, hp⟩
                    · rw [HYF.out] at hx; cases hx
                    obtain rfl : y = y' := by rw [HYF.out] at hx; simpa using hx
                    have HG10 := Lib.hid (HGJI.out.step hg10)
                    obtain ⟨hbo10, hcj10⟩ := HCR.out _ HG10.out
                    obtain ⟨hbn10, hcn10⟩ := HNX.out _ (HG9.out.step HG10.out)
                    obtain ⟨pa, pc, rfl⟩ := hp.isSlice
                    have HW := Lib.hid (show ∀ o1, Grow w10 (w10.alloc o1) from fun o1 => (Grow.rfl' w10).allocd o1)
                    clear hp hg10 hx hcj hbo
                    by_cases hj0 : j = 0
                    · have hd0 : decide ((0 : Int) < (j : Int)) = false := decide_eq_false (by omega)
                      have hk00 : ¬ 0 < j := by omega
                      clear hj0
                      go_wp2_with fail
                      refine wp_region_grow (by kernel_rfl) (by kernel_rfl) ?_
                      repeat (go_big_quiet_step (fail))
                      refine wpQuiet_nil ?_
                      intro w12 hw12
                      go_wp2_with fail
                      go_roundg (LI.length - (j + 1))
                      case measure => omega
                      case rel => exact ⟨j + 1, by omega, rfl, by go_num, (HG10.out.step (HW.out _)).step hw12⟩
                    · obtain ⟨m, rfl⟩ : ∃ m, j = m + 1 := ⟨j - 1, by omega⟩
                      obtain ⟨p, hp, hlt⟩ := HUP.out m rfl
                      obtain ⟨bo2, oo2, ho2, hcr2⟩ := HR9.out m p hp
                      cases ho2
                      obtain ⟨hbo2, hcm10⟩ := hcr2 _ HG10.out
                      have hd0 : decide ((0 : Int) < (m : Int) + 1) = true := decide_eq_true (by omega)
                      have hd1 : decide (yi ≤ p) = false := decide_eq_false (by omega)
                      have hws : IntKind.i64.wrap ((m : Int) + 1 - 1) = (m : Int) := by rw [IntKind.wrap_i64]; omega
                      clear hlt hp hcr2
                      go_wp2_with fail
                      refine wp_region_grow (by kernel_rfl) (by kernel_rfl) ?_
                      repeat (go_big_quiet_step (fail))
                      refine wpQuiet_nil ?_
                      intro w12 hw12
                      go_wp2_with fail
                      go_roundg (LI.length - (m + 1 + 1))
                      case measure => omega
                      case rel => exact ⟨m + 1 + 1, by omega, rfl, by go_num, (HG10.out.step (HW.out _)).step hw12⟩
                  ·
                    go_wp2_with fail
                    go_roundg (G.nodes.length - (k + 1))
                    case measure => omega
                    case rel => exact ⟨k + 1, by omega, rfl, by rw [HSO.out]; go_num, by rw [HSI.out]; go_num, by go_num, HG9.out.step HGJI.out⟩
          · obtain rfl : k = G.nodes.length := by omega
            have hq1 : ((endsAt (fun x => x.from_) G G.nodes.length : Int) == (G.edges.length : Int)) = true := by rw [endsAt_all HI.out.nodes (fun x hx => (HX.out.edges x hx).2.1)]; simp
            have hq2 : ((endsAt (fun x => x.to_) G G.nodes.length : Int) == (G.edges.length : Int)) = true := by rw [endsAt_all HI.out.nodes (fun x hx => (HX.out.edges x hx).2.2.1)]; simp
            clear hk hkl
            go_wp2_with fail
            refine (lawWakes _).mono ?_
            rintro e w13 ⟨rfl, hg13⟩
            have HG13 := Lib.hid (((HG1.out.step HG6.out).step HGK0.out).step hg13); clear hg13
            go_wp2
            go_ret
            exact ⟨rfl, HG13.out⟩
end Go.Hg
