/- hedgerowlaw17.GraphEnds: true. No condition. -/
import Derived.Test.YtcokiflkjnekeaaPlain
import Derived.Test.YtcokiflkjnekeaaRefGood
namespace Go.Hg
open Go.RowKit Go.Proofs

set_option maxRecDepth 100000 in
set_option maxHeartbeats 4000000 in
theorem lawEnds (S : Nat → Prop) (v : Value) (l : List POp) (w : World) (hl : OpsR S w v l) :
    Calls Try.prog 3 #[v] w fun e w' => e = .returned (.bool true) ∧ Grow w w' := by
  have HL := Lib.hid hl
  obtain ⟨aa, ca, rfl, hal, hac, hA⟩ := SlR.open hl
  clear hl
  unfold maxLen at hac
  have HA := Lib.hid hA; clear hA
  go_enter Try.func3, Try.ntmps3
  go_wp2_with fail
  refine (lawFair S _ l _ HL.out).mono ?_
  rintro e w1 ⟨rfl, hg1⟩
  have HG1 := Lib.hid hg1
  cases hf : fairOps l
  · clear hg1
    go_wp2_with fail
    refine (lawWakes _).mono ?_
    rintro e w2 ⟨rfl, hg2⟩
    have HG2 := Lib.hid (HG1.out.step hg2); clear hg2
    go_wp2
    go_ret
    exact ⟨rfl, HG2.out⟩
  · clear hf hg1
    go_wp2_with fail
    refine (graphNew _).mono ?_
    rintro e w2 ⟨B, rfl, hgr, hg2⟩
    have HGR2 := Lib.hid hgr; have HG2 := Lib.hid hg2
    clear hgr hg2
    go_wp2
    go_loopg [4] l.length (fun g i wr => ∃ (k : Nat) (G : PGraph), k ≤ l.length ∧ g = l.length - k ∧ i = .int .i64 k ∧ goodG G = true ∧ GraphOk 81 (fun b => w1.heap.size ≤ b) wr B G ∧ Grow w1 wr)
    case atStart => exact ⟨0, PGraph.empty, by omega, by omega, rfl, goodG_empty, HGR2.out, HG2.out⟩
    case round =>
      obtain ⟨k, G, hk, rfl, rfl, hgood, hgr, hg⟩ := hrel
      have HGOOD := Lib.hid hgood; have HGR := Lib.hid hgr; have HG := Lib.hid hg
      clear hgood hgr hg
      by_cases hkl : k < l.length
      · obtain ⟨ba, oa, ra, rfl, hSa, hba, hRa, hca⟩ := HA.out k l[k] (List.getElem?_eq_getElem hkl)
        have HS := Lib.hid (show ∀ w', Grow w w' → (w'.cell? ⟨ba, oa + k * 10, none⟩ = some (.int .i64 l[k].kind) ∧ w'.cell? ⟨ba, oa + k * 10 + 1, none⟩ = some (.int .i64 l[k].id) ∧ w'.cell? ⟨ba, oa + k * 10 + 2, none⟩ = some (.string l[k].typ) ∧ w'.cell? ⟨ba, oa + k * 10 + 3, none⟩ = some (.int .i64 l[k].from_) ∧ w'.cell? ⟨ba, oa + k * 10 + 4, none⟩ = some (.int .i64 l[k].to_) ∧ w'.cell? ⟨ba, oa + k * 10 + 5, none⟩ = some (.string l[k].name) ∧ w'.cell? ⟨ba, oa + k * 10 + 6, none⟩ = some (.int .i64 l[k].v.kind) ∧ w'.cell? ⟨ba, oa + k * 10 + 7, none⟩ = some (.int .i64 l[k].v.n) ∧ w'.cell? ⟨ba, oa + k * 10 + 8, none⟩ = some (.string l[k].v.s) ∧ w'.cell? ⟨ba, oa + k * 10 + 9, none⟩ = some (.bool l[k].cascade)) from fun w' hg' => (opCells hRa hba hg' hca).2)
        clear hca hRa hSa hba
        generalize l[k] = o at *
        have HD := Lib.hid (show Grow w1 wr.drew from HG.out.drewd)
        have HGRD := Lib.hid (HGR.out.grow ((Grow.rfl' wr).drewd))
        go_wp2_with fail
        go_region_held3 (fun w' => w'.cell? ⟨ba, oa + k * 10, none⟩ = some (.int .i64 o.kind) ∧ w'.cell? ⟨ba, oa + k * 10 + 1, none⟩ = some (.int .i64 o.id) ∧ w'.cell? ⟨ba, oa + k * 10 + 2, none⟩ = some (.string o.typ) ∧ w'.cell? ⟨ba, oa + k * 10 + 3, none⟩ = some (.int .i64 o.from_) ∧ w'.cell? ⟨ba, oa + k * 10 + 4, none⟩ = some (.int .i64 o.to_) ∧ w'.cell? ⟨ba, oa + k * 10 + 5, none⟩ = some (.string o.name) ∧ w'.cell? ⟨ba, oa + k * 10 + 6, none⟩ = some (.int .i64 o.v.kind) ∧ w'.cell? ⟨ba, oa + k * 10 + 7, none⟩ = some (.int .i64 o.v.n) ∧ w'.cell? ⟨ba, oa + k * 10 + 8, none⟩ = some (.string o.v.s) ∧ w'.cell? ⟨ba, oa + k * 10 + 9, none⟩ = some (.bool o.cascade)) (first | exact HS.out _ (HG1.out.step HD.out) | exact HS.out _ (HG1.out.step HD3.out) | exact HS.out _ (HG1.out.step HG4.out)) (first | (go_at_call 13; refine (lawTypes _).mono ?_; rintro e w3 ⟨nv, ev, rfl, hc, hg3⟩; have HC := Lib.hid hc; have HD3 := Lib.hid (HD.out.step hg3); have HG3 := Lib.hid hg3; obtain ⟨na, nc, ea, ec, ra, rc, ia, ic, rfl, rfl, -, -⟩ := hc.slices; clear hc hg3) | (go_at_call 12; refine (doOwn _ B G _ _ _ _ typesC o w1 _ HD3.out (HGRD.out.grow HG3.out) (goodG_inv HGOOD.out) HC.out).mono ?_; rintro e w4 ⟨rfl, hgr4, hg4⟩; have HGR4 := Lib.hid hgr4; have HG4 := Lib.hid hg4; clear hgr4 hg4; generalize (if mayG typesC o G = 0 then idG o G else 0) = rid; generalize mayG typesC o G = rer))
        have HGOOD4 := Lib.hid (goodG_step (o := o) typesC_names HGOOD.out)
        generalize stepG typesC o G = G4 at *
        have HI4 := Lib.hid (goodG_inv HGOOD4.out)
        have HNL := Lib.hid (show G4.nodes.length ≤ 1099511627776 by have := HI4.out.items; omega)
        have HEL := Lib.hid (show G4.edges.length ≤ 1099511627776 by have := HI4.out.items; omega)
        go_wp2_with fail
        refine (graphNodes _ B G4 _ HGR4.out.rd HNL.out (fun x hx => by have := (HI4.out.nodesB x hx).2.2; omega)).mono ?_
        rintro e w5 ⟨v5, on, rfl, hon, -, hg5⟩
        have HG5 := Lib.hid hg5
        have HON := Lib.hid (show NodesR (fun b => on = some b ∨ w4.heap.size ≤ b) w5 v5 G4.nodes from SlR.sub (hon.toSl (S := fun b => on = some b ∨ w4.heap.size ≤ b) (fun g hg => .inl hg)) (fun _ h => h) (fun x r _ hR => hR.sub (fun b hb => .inr hb.1)))
        obtain ⟨a5, c5, rfl⟩ : ∃ a c, v5 = .slice a G4.nodes.length c := by obtain ⟨_, _, _, h⟩ := hon; obtain ⟨oa, cap, h, _⟩ := h.isSlice; exact ⟨oa, cap, h⟩
        clear hon hg5
        go_wp2_with fail
        refine (graphEdges _ B G4 _ (HGR4.out.rd.grow HG5.out) HEL.out (fun x hx => by have := (HI4.out.edgesB x hx).2.2; omega)).mono ?_
        rintro e w6 ⟨v6, oe, rfl, hoe, -, hg6⟩
        have HG6 := Lib.hid (HG5.out.step hg6); have HG56 := Lib.hid hg6
        have HOE := Lib.hid (show EdgesR (fun b => oe = some b ∨ w5.heap.size ≤ b) w6 v6 G4.edges from SlR.sub (hoe.toSl (S := fun b => oe = some b ∨ w5.heap.size ≤ b) (fun g hg => .inl hg)) (fun _ h => h) (fun x r _ hR => hR.sub (fun b hb => .inr hb.1)))
        obtain ⟨a6, c6, rfl⟩ : ∃ a c, v6 = .slice a G4.edges.length c := by obtain ⟨_, _, _, h⟩ := hoe; obtain ⟨oa, cap, h, _⟩ := h.isSlice; exact ⟨oa, cap, h⟩
        clear hoe hg6
        go_wp2_with fail
        refine (graphNext _ B G4 _ (HGR4.out.grow HG6.out)).mono ?_
        rintro e w7 ⟨rfl, rfl⟩
        go_wp2_with fail
        refine (refGood (fun _ => True) _ _ G4.nodes G4.edges G4.next _ (SlR.sub (HON.out.grow HG56.out) (fun _ _ => trivial) (fun x r _ hR => hR.sub (fun _ _ => trivial))) (SlR.sub HOE.out (fun _ _ => trivial) (fun x r _ hR => hR.sub (fun _ _ => trivial))) HNL.out HEL.out).mono ?_
        rintro e w8 ⟨rfl, hg8⟩
        have HG8 := Lib.hid ((HG4.out.step HG6.out).step hg8)
        have HGR8 := Lib.hid ((HGR4.out.grow HG6.out).grow hg8)
        clear hg8
        rw [show goodG ⟨G4.nodes, G4.edges, G4.next⟩ = true from HGOOD4.out]
        go_wp2_with fail
        go_roundg (l.length - (k + 1))
        case measure => omega
        case rel => exact ⟨k + 1, G4, by omega, rfl, by go_num, HGOOD4.out, HGR8.out, HG8.out⟩
      · go_wp2_with fail
        refine (lawWakes _).mono ?_
        rintro e w3 ⟨rfl, hg3⟩
        have HG3 := Lib.hid ((HG1.out.step HG.out).step hg3); clear hg3
        go_wp2
        go_ret
        exact ⟨rfl, HG3.out⟩
end Go.Hg
