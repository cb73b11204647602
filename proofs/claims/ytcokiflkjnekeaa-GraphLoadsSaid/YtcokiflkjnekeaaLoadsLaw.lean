/- hedgerowlaw17.GraphLoads: true. No condition. Printed by genloads.py. -/
import Derived.Test.YtcokiflkjnekeaaPair
import Derived.Test.YtcokiflkjnekeaaOver
import Derived.Test.YtcokiflkjnekeaaPlain
import Derived.Test.YtcokiflkjnekeaaLargeG
import Derived.Test.YtcokiflkjnekeaaRefLoad
import Derived.Test.YtcokiflkjnekeaaLawB
namespace Go.Hg
open Go.RowKit Go.Proofs

/-- an array that is overwritten -/
def ShapeV (lo hi : Nat) (oa : Option Addr) (n : Nat) (w : World) : Prop := 0 < n → ∃ g, oa = some ⟨g, 0, none⟩ ∧ Shape w g n ∧ lo ≤ g ∧ g < hi
theorem NodesR.mod {F S : Nat → Prop} {w w' : World} {v : Value} {l : List PNode} (h : NodesR S w v l) (g : Mod F w w') (hd : ∀ b, S b → ¬ F b) : NodesR S w' v l :=
  SlR.keep h (fun b hS hb => g.block b hb (hd b hS)) g.size (fun _ _ _ hR => hR.mod g hd)
theorem EdgesR.mod {F S : Nat → Prop} {w w' : World} {v : Value} {l : List PEdge} (h : EdgesR S w v l) (g : Mod F w w') (hd : ∀ b, S b → ¬ F b) : EdgesR S w' v l :=
  SlR.keep h (fun b hS hb => g.block b hb (hd b hS)) g.size (fun _ _ _ hR => hR.mod g hd)
theorem NodesO.shapeV {lo : Nat} {w : World} {oa : Option Addr} {n cap : Nat} {l : List PNode} (h : NodesO (fun b => lo ≤ b) w (.slice oa n cap) l) : ShapeV lo w.heap.size oa (l.length * 3) w := fun h0 => by
  obtain ⟨S, ob, h1, h2, h3⟩ := h
  obtain ⟨g, rfl, rfl, -, -, -⟩ := h3.addr (by omega)
  exact ⟨g, rfl, h3.shape, (h2 g rfl).1, h3.lt g rfl⟩
theorem Shape.mod {F : Nat → Prop} {w w' : World} {b n : Nat} (h : Shape w b n) (m : Mod F w w') (hb : ¬ F b) : Shape w' b n := by
  obtain ⟨cs, E, h, hn⟩ := h
  exact ⟨cs, E, (m.block b (blk_lt h) hb).trans h, hn⟩

set_option maxRecDepth 100000 in
set_option maxHeartbeats 8000000 in
theorem lawLoads (nodes : List PNode) (edges : List PEdge) (nv ev : Value) (next : Int) (S : Nat → Prop) (v : Value) (l : List POp) (w : World) (hn : NodesR (fun _ => True) w nv nodes) (he : EdgesR (fun _ => True) w ev edges) (hl : OpsR S w v l) :
    Calls Try.prog 6 #[.agg #[nv, ev, .int .i64 next], v] w fun e w' => e = .returned (.bool true) ∧ Grow w w' := by
  have HL := Lib.hid hl; have HN := Lib.hid hn; have HE := Lib.hid he
  obtain ⟨aa, ca, rfl, hal, hac, hA⟩ := SlR.open hl
  obtain ⟨na, nc, rfl, hnl, hnc, -⟩ := SlR.open hn
  obtain ⟨ea, ec, rfl, hel, hec, -⟩ := SlR.open he
  clear hl hn he
  unfold maxLen at hac hnc hec
  have HA := Lib.hid hA; clear hA
  have HW := Lib.hid (show ∀ o1, Grow w (w.alloc o1) from fun o1 => (Grow.rfl' w).allocd o1)
  have HNB := Lib.hid (heap_alloc_new w (.cells #[.slice na nodes.length nc, .slice ea edges.length ec, .int .i64 next] 64))
  have z0 : (w.alloc (.cells #[.slice na nodes.length nc, .slice ea edges.length ec, .int .i64 next] 64)).cell? ⟨w.heap.size, 0, none⟩ = some (.slice na nodes.length nc) := by rw [blk_cell HNB.out]; rfl
  have z1 : (w.alloc (.cells #[.slice na nodes.length nc, .slice ea edges.length ec, .int .i64 next] 64)).cell? ⟨w.heap.size, 1, none⟩ = some (.slice ea edges.length ec) := by rw [blk_cell HNB.out]; rfl
  have z2 : (w.alloc (.cells #[.slice na nodes.length nc, .slice ea edges.length ec, .int .i64 next] 64)).cell? ⟨w.heap.size, 2, none⟩ = some (.int .i64 next) := by rw [blk_cell HNB.out]; rfl
  go_enter Try.func6, Try.ntmps6
  go_wp2_with fail
  refine wp_region_grow (by kernel_rfl) (by kernel_rfl) ?_
  repeat (go_big_quiet_step (fail))
  refine wpQuiet_nil ?_
  intro w2 hg2
  have HG2 := Lib.hid ((HW.out _).step hg2)
  clear hg2 z0 z1 z2 HNB
  go_wp2_with fail
  refine (keepLargeGraph (fun _ => True) _ _ nodes edges _ (HN.out.grow HG2.out) (HE.out.grow HG2.out)).mono ?_
  rintro e w3 ⟨b, rfl, hb, hg3⟩
  have HG3 := Lib.hid (HG2.out.step hg3); have HBD := Lib.hid hb
  clear hg3 hb
  cases b
  rotate_left
  · go_wp2_with fail
    refine (lawWakes _).mono ?_
    rintro e w4 ⟨rfl, hg4⟩
    have HG4 := Lib.hid (HG3.out.step hg4); clear hg4
    go_wp2
    go_ret
    exact ⟨rfl, HG4.out⟩
  go_wp2_with fail
  refine (lawFair S _ l _ (HL.out.growS HG3.out)).mono ?_
  rintro e w4 ⟨rfl, hg4⟩
  have HG4 := Lib.hid (HG3.out.step hg4)
  clear hg4
  cases hf : fairOps l
  · clear hf
    go_wp2_with fail
    refine (lawWakes _).mono ?_
    rintro e w5 ⟨rfl, hg5⟩
    have HG5 := Lib.hid (HG4.out.step hg5); clear hg5
    go_wp2
    go_ret
    exact ⟨rfl, HG5.out⟩
  clear hf
  have hbd := HBD.out (by trivial)
  have HNL := Lib.hid (show nodes.length ≤ 1099511627776 by have := hbd.1; omega)
  have HEL := Lib.hid (show edges.length ≤ 1099511627776 by have := hbd.2.1; omega)
  have HNP := Lib.hid (show ∀ x ∈ nodes, x.props.length ≤ 1099511627776 from fun x hx => by have := hbd.2.2.1 x hx; omega)
  have HEP := Lib.hid (show ∀ x ∈ edges, x.props.length ≤ 1099511627776 from fun x hx => by have := hbd.2.2.2 x hx; omega)
  clear hbd HBD
  go_wp2_with fail
  refine (graphNew _).mono ?_
  rintro e w5 ⟨B1, rfl, hgr, hg5⟩
  have HGR5 := Lib.hid hgr; have HG45 := Lib.hid hg5; have HG5 := Lib.hid (HG4.out.step hg5)
  have HB5 := Lib.hid (show B1 < w5.heap.size ∧ w4.heap.size ≤ B1 from ⟨hgr.rootLt, hgr.root⟩)
  clear hgr hg5
  go_wp2_with fail
  refine (refLoad (fun _ => True) _ _ nodes edges next _ (HN.out.grow HG5.out) (HE.out.grow HG5.out) HNL.out HEL.out HNP.out HEP.out).mono ?_
  rintro e w6 h6
  obtain ⟨hgood, B2, rfl, hq, hg6⟩ | ⟨hbad, rfl, hg6⟩ := h6
  · have HGOOD := Lib.hid hgood; have HQ6 := Lib.hid hq
    clear hgood hq
    have HG56 := Lib.hid hg6; have HG6 := Lib.hid (HG5.out.step hg6)
    go_wp2_with fail
    refine (copyNodes (fun _ => True) _ nodes _ (HN.out.grow HG6.out) HNL.out HNP.out).mono ?_
    rintro e w7 ⟨v7, rfl, h7, hg7⟩
    have H7 := Lib.hid h7; have HG67 := Lib.hid hg7; have HG7 := Lib.hid (HG6.out.step hg7)
    obtain ⟨a7, c7, rfl, hl7, hc7, -⟩ := SlR.open h7.toR
    unfold maxLen at hc7
    clear h7 hg7 hg6
    go_wp2_with fail
    refine (copyEdges (fun _ => True) _ edges _ (HE.out.grow HG7.out) HEL.out HEP.out).mono ?_
    rintro e w8 ⟨v8, rfl, h8, hg8⟩
    have H8 := Lib.hid h8; have HG78 := Lib.hid hg8; have HG8 := Lib.hid (HG7.out.step hg8)
    obtain ⟨a8, c8, rfl, -⟩ := SlR.open h8.toR
    clear h8 hg8
    obtain ⟨nv0, ev0, R0, on0, oe0, hKb, -⟩ := HGR5.out.grow ((HG56.out.step HG67.out).step HG78.out)
    have HKB := Lib.hid hKb
    clear hKb
    go_wp2_with fail
    refine (graphLoad (fun _ => True) B1 _ _ _ nodes edges next _ rfl HKB.out (SlR.sub (H7.out.toR.grow HG78.out) (fun _ _ => trivial) (fun x r _ hR => hR.sub (fun _ _ => trivial))) (SlR.sub H8.out.toR (fun _ _ => trivial) (fun x r _ hR => hR.sub (fun _ _ => trivial))) HNL.out HEL.out).mono ?_
    rintro e w9 h9
    obtain ⟨-, rfl, hgr, hm9⟩ | ⟨hno, -⟩ := h9
    rotate_left
    · rw [HGOOD.out] at hno; cases hno
    have HGR9 := Lib.hid hgr; have HM9 := Lib.hid hm9
    have HW9 := Lib.hid (HG8.out.modd hm9 (fun b hb => by have := HB5.out.2; have := HG4.out.size; omega))
    clear hgr hm9
    have HNB := Lib.hid (show ∀ b, w6.heap.size ≤ b → ¬ (b = B1) from fun b hb e => by have := HB5.out.1; have := HG56.out.size; omega)
    go_wp2_with fail
    refine (keepNodesSame (fun b => w6.heap.size ≤ b) (fun _ => True) _ _ nodes _ ((H7.out.toR.grow HG78.out).mod HM9.out HNB.out) (HN.out.grow HW9.out)).mono ?_
    rintro e w10 ⟨rfl, hg10⟩
    have HG10 := Lib.hid hg10
    clear hg10
    go_wp2_with fail
    refine (keepEdgesSame (fun b => w7.heap.size ≤ b) (fun _ => True) _ _ edges _ ((H8.out.toR.mod HM9.out (fun b hb => HNB.out b (Nat.le_trans HG67.out.size hb))).grow HG10.out) (HE.out.grow (HW9.out.step HG10.out))).mono ?_
    rintro e w11 ⟨rfl, hg11⟩
    have HG911 := Lib.hid (HG10.out.step hg11)
    have HW11 := Lib.hid (HW9.out.step HG911.out)
    clear hg11 HG10
    have HSV := Lib.hid (show ShapeV w6.heap.size w7.heap.size a7 (nodes.length * 3) w11 from fun h0 => by
      obtain ⟨g, e, h1, h2, h3⟩ := H7.out.shapeV h0
      exact ⟨g, e, (((h1.grow HG78.out).mod HM9.out (HNB.out g h2)).grow HG911.out), h2, h3⟩)
    go_wp2
    go_loopg [13] nodes.length (fun gg i wz => ∃ p : Nat, p ≤ nodes.length ∧ gg = nodes.length - p ∧ i = .int .i64 p ∧ ShapeV w6.heap.size w7.heap.size a7 (nodes.length * 3) wz ∧ Mod (fun b => w6.heap.size ≤ b ∧ b < w7.heap.size) w11 wz)
    case atStart => exact ⟨0, by omega, by omega, rfl, HSV.out, Mod.rfl' _ _⟩
    case round =>
      obtain ⟨p, hp, rfl, rfl, hsv, hmz⟩ := hrel
      have HSP := Lib.hid hsv; have HMP := Lib.hid hmz
      clear hsv hmz
      by_cases hpl : p < nodes.length
      · obtain ⟨g, rfl, hsh, hg1, hg2⟩ := HSP.out (by omega)
        have HSH := Lib.hid hsh
        have hgw := hsh.lt
        obtain ⟨n0, hn0⟩ := hsh.cell (o := p * 3) (by omega)
        have fn0 := hsh.free (p * 3)
        obtain ⟨n1, hn1⟩ := hsh.cell (o := p * 3 + 1) (by omega)
        have fn1 := hsh.free (p * 3 + 1)
        obtain ⟨n2, hn2⟩ := hsh.cell (o := p * 3 + 2) (by omega)
        have fn2 := hsh.free (p * 3 + 2)
        clear hsh
        go_wp2_with fail
        go_roundg (nodes.length - (p + 1))
        case measure => omega
        case rel => exact ⟨p + 1, by omega, rfl, by go_num, fun _ => ⟨g, rfl, ((HSH.out.set _ _ _).set _ _ _).set _ _ _, hg1, hg2⟩, ((HMP.out.setd (p := ⟨g, p * 3, none⟩) (.inl ⟨hg1, hg2⟩) _).setd (p := ⟨g, p * 3 + 1, none⟩) (.inl ⟨hg1, hg2⟩) _).setd (p := ⟨g, p * 3 + 2, none⟩) (.inl ⟨hg1, hg2⟩) _⟩
      · have HP12 := Lib.hid (show Pair 81 88 w4 wr B1 B2 ⟨nodes, edges, next⟩ ⟨nodes, edges, next⟩ by
          have s45 := HG45.out.size; have s56 := HG56.out.size; have s67 := HG67.out.size; have s78 := HG78.out.size; have s89 := HM9.out.size; have s911 := HG911.out.size; have sz := HMP.out.size
          have hb := HB5.out
          refine ⟨fun b => (b = B1 ∨ w8.heap.size ≤ b) ∧ b < w9.heap.size, fun b => w5.heap.size ≤ b ∧ b < w6.heap.size, (HGR9.out.cut.grow HG911.out).keep HMP.out (fun b hb hb' => by omega), ((((HQ6.out.cut.grow (HG67.out.step HG78.out)).keep HM9.out (fun b hb hb' => by omega)).grow HG911.out).keep HMP.out (fun b hb hb' => by omega)), fun b h1 h2 => by omega, fun b h1 => by omega, fun b h1 => by omega, ?_⟩
          exact (((((HG45.out.step HG56.out).step HG67.out).step HG78.out).modd HM9.out (fun b hb => by omega)).step HG911.out).modd HMP.out (fun b hb => by omega))
        clear HMP HSP HGR9 HQ6 HM9 HSV
        go_wp2
        go_loopg [14] l.length (fun g i wz => ∃ (k : Nat) (G : PGraph), k ≤ l.length ∧ g = l.length - k ∧ i = .int .i64 k ∧ goodG G = true ∧ Pair 81 88 w4 wz B1 B2 G G)
        case atStart => exact ⟨0, _, by omega, by omega, rfl, HGOOD.out, HP12.out⟩
        case round =>
          obtain ⟨k, G, hk, rfl, rfl, hgood, hpr⟩ := hrel
          have HGOODK := Lib.hid hgood; have HP := Lib.hid hpr
          clear hgood hpr HP12
          have HI := Lib.hid (goodG_inv HGOODK.out)
          by_cases hkl : k < l.length
          · obtain ⟨ba, oa, ra, rfl, hSa, hba, hRa, hca⟩ := HA.out k l[k] (List.getElem?_eq_getElem hkl)
            have HS := Lib.hid (show ∀ w', Grow w w' → (w'.cell? ⟨ba, oa + k * 10, none⟩ = some (.int .i64 l[k].kind) ∧ w'.cell? ⟨ba, oa + k * 10 + 1, none⟩ = some (.int .i64 l[k].id) ∧ w'.cell? ⟨ba, oa + k * 10 + 2, none⟩ = some (.string l[k].typ) ∧ w'.cell? ⟨ba, oa + k * 10 + 3, none⟩ = some (.int .i64 l[k].from_) ∧ w'.cell? ⟨ba, oa + k * 10 + 4, none⟩ = some (.int .i64 l[k].to_) ∧ w'.cell? ⟨ba, oa + k * 10 + 5, none⟩ = some (.string l[k].name) ∧ w'.cell? ⟨ba, oa + k * 10 + 6, none⟩ = some (.int .i64 l[k].v.kind) ∧ w'.cell? ⟨ba, oa + k * 10 + 7, none⟩ = some (.int .i64 l[k].v.n) ∧ w'.cell? ⟨ba, oa + k * 10 + 8, none⟩ = some (.string l[k].v.s) ∧ w'.cell? ⟨ba, oa + k * 10 + 9, none⟩ = some (.bool l[k].cascade)) from fun w' hg' => (opCells hRa hba hg' hca).2)
            clear hca hRa hSa hba
            generalize l[k] = o at *
            obtain ⟨rid, hrid⟩ : ∃ r, r = (if mayG typesC o G = 0 then idG o G else 0) := ⟨_, rfl⟩
            obtain ⟨rer, hrer⟩ : ∃ r, r = mayG typesC o G := ⟨_, rfl⟩
            have HRID := Lib.hid hrid; have HRER := Lib.hid hrer
            clear hrid hrer
            have HD := Lib.hid (show Grow w4 wr.drew from HP.out.grown.drewd)
            have HPD := Lib.hid (HP.out.grow ((Grow.rfl' wr).drewd))
            go_wp2_with fail
            go_region_held3 (fun w' => w'.cell? ⟨ba, oa + k * 10, none⟩ = some (.int .i64 o.kind) ∧ w'.cell? ⟨ba, oa + k * 10 + 1, none⟩ = some (.int .i64 o.id) ∧ w'.cell? ⟨ba, oa + k * 10 + 2, none⟩ = some (.string o.typ) ∧ w'.cell? ⟨ba, oa + k * 10 + 3, none⟩ = some (.int .i64 o.from_) ∧ w'.cell? ⟨ba, oa + k * 10 + 4, none⟩ = some (.int .i64 o.to_) ∧ w'.cell? ⟨ba, oa + k * 10 + 5, none⟩ = some (.string o.name) ∧ w'.cell? ⟨ba, oa + k * 10 + 6, none⟩ = some (.int .i64 o.v.kind) ∧ w'.cell? ⟨ba, oa + k * 10 + 7, none⟩ = some (.int .i64 o.v.n) ∧ w'.cell? ⟨ba, oa + k * 10 + 8, none⟩ = some (.string o.v.s) ∧ w'.cell? ⟨ba, oa + k * 10 + 9, none⟩ = some (.bool o.cascade)) (first | exact HS.out _ (HG4.out.step HD.out) | exact HS.out _ (HG4.out.step HT3.out) | exact HS.out _ (HG4.out.step HP4.out.grown)) (first | (go_at_call 13; refine (lawTypes _).mono ?_; rintro e wt3 ⟨nv, ev, rfl, hc, hg3⟩; have HC := Lib.hid hc; have HT3 := Lib.hid (HD.out.step hg3); have HTG3 := Lib.hid hg3; obtain ⟨na, nc, ea, ec, ra, rc, ia, ic, rfl, rfl, -, -⟩ := hc.slices; clear hc hg3) | (go_at_call 12; refine (pairDo1 _ B1 B2 G G _ _ _ _ typesC o w4 _ (HPD.out.grow HTG3.out) HI.out HC.out).mono ?_; rintro e wd4 ⟨rfl, hp4⟩; have HP4 := Lib.hid hp4; clear hp4; rw [← HRID.out, ← HRER.out]))
            have HD5 := Lib.hid (show Grow w4 wd4.drew from HP4.out.grown.drewd)
            have HPD5 := Lib.hid (HP4.out.grow ((Grow.rfl' wd4).drewd))
            go_wp2_with fail
            go_region_held3 (fun w' => w'.cell? ⟨ba, oa + k * 10, none⟩ = some (.int .i64 o.kind) ∧ w'.cell? ⟨ba, oa + k * 10 + 1, none⟩ = some (.int .i64 o.id) ∧ w'.cell? ⟨ba, oa + k * 10 + 2, none⟩ = some (.string o.typ) ∧ w'.cell? ⟨ba, oa + k * 10 + 3, none⟩ = some (.int .i64 o.from_) ∧ w'.cell? ⟨ba, oa + k * 10 + 4, none⟩ = some (.int .i64 o.to_) ∧ w'.cell? ⟨ba, oa + k * 10 + 5, none⟩ = some (.string o.name) ∧ w'.cell? ⟨ba, oa + k * 10 + 6, none⟩ = some (.int .i64 o.v.kind) ∧ w'.cell? ⟨ba, oa + k * 10 + 7, none⟩ = some (.int .i64 o.v.n) ∧ w'.cell? ⟨ba, oa + k * 10 + 8, none⟩ = some (.string o.v.s) ∧ w'.cell? ⟨ba, oa + k * 10 + 9, none⟩ = some (.bool o.cascade)) (first | exact HS.out _ (HG4.out.step HD5.out) | exact HS.out _ (HG4.out.step HT5.out) | exact HS.out _ (HG4.out.step HP6.out.grown)) (first | (go_at_call 13; refine (lawTypes _).mono ?_; rintro e wt5 ⟨nv, ev, rfl, hc, hg3⟩; have HC := Lib.hid hc; have HT5 := Lib.hid (HD5.out.step hg3); have HTG5 := Lib.hid hg3; obtain ⟨na, nc, ea, ec, ra, rc, ia, ic, rfl, rfl, -, -⟩ := hc.slices; clear hc hg3) | (go_at_call 19; refine (pairDo2 _ B1 B2 (stepG typesC o G) G _ _ _ _ typesC o w4 _ (HPD5.out.grow HTG5.out) HI.out HC.out).mono ?_; rintro e wd6 ⟨rfl, hp6⟩; have HP6 := Lib.hid hp6; clear hp6; rw [← HRID.out, ← HRER.out]))
            have HGOOD4 := Lib.hid (goodG_step (o := o) typesC_names HGOODK.out)
            clear HRID HRER
            generalize stepG typesC o G = G4 at *
            go_wp2_with fail
            go_roundg (l.length - (k + 1))
            case measure => omega
            case rel => exact ⟨k + 1, G4, by omega, rfl, by go_num, HGOOD4.out, HP6.out⟩
          · obtain ⟨S1, S2, h1, h2, -, -, -, h6⟩ := HP.out
            have H1 := Lib.hid h1; have H2 := Lib.hid h2; have HWK := Lib.hid (HG4.out.step h6)
            clear h1 h2 h6
            go_wp2_with fail
            refine (lawSame S1 S2 B1 B2 G _ H1.out H2.out HI.out).mono ?_
            rintro e w12 ⟨rfl, hg12⟩
            have HG12 := Lib.hid (HWK.out.step hg12)
            clear hg12
            go_wp2_with fail
            refine (lawWakes _).mono ?_
            rintro e w13 ⟨rfl, hg13⟩
            have HG13 := Lib.hid (HG12.out.step hg13)
            clear hg13
            go_wp2
            go_ret
            exact ⟨rfl, HG13.out⟩
  · have HBAD := Lib.hid hbad
    clear hbad
    have HG56 := Lib.hid hg6; have HG6 := Lib.hid (HG5.out.step hg6)
    go_wp2_with fail
    refine (copyNodes (fun _ => True) _ nodes _ (HN.out.grow HG6.out) HNL.out HNP.out).mono ?_
    rintro e w7 ⟨v7, rfl, h7, hg7⟩
    have H7 := Lib.hid h7; have HG67 := Lib.hid hg7; have HG7 := Lib.hid (HG6.out.step hg7)
    obtain ⟨a7, c7, rfl, hl7, hc7, -⟩ := SlR.open h7.toR
    unfold maxLen at hc7
    clear h7 hg7 hg6
    go_wp2_with fail
    refine (copyEdges (fun _ => True) _ edges _ (HE.out.grow HG7.out) HEL.out HEP.out).mono ?_
    rintro e w8 ⟨v8, rfl, h8, hg8⟩
    have H8 := Lib.hid h8; have HG78 := Lib.hid hg8; have HG8 := Lib.hid (HG7.out.step hg8)
    obtain ⟨a8, c8, rfl, -⟩ := SlR.open h8.toR
    clear h8 hg8
    obtain ⟨nv0, ev0, R0, on0, oe0, hKb, -⟩ := HGR5.out.grow ((HG56.out.step HG67.out).step HG78.out)
    have HKB := Lib.hid hKb
    clear hKb
    go_wp2_with fail
    refine (graphLoad (fun _ => True) B1 _ _ _ nodes edges next _ rfl HKB.out (SlR.sub (H7.out.toR.grow HG78.out) (fun _ _ => trivial) (fun x r _ hR => hR.sub (fun _ _ => trivial))) (SlR.sub H8.out.toR (fun _ _ => trivial) (fun x r _ hR => hR.sub (fun _ _ => trivial))) HNL.out HEL.out).mono ?_
    rintro e w9 h9
    obtain ⟨hno, -⟩ | ⟨-, rfl, hg9⟩ := h9
    · rw [HBAD.out] at hno; cases hno
    have HM9 := Lib.hid (Mod.of_grow (F := fun b => b = B1) hg9)
    have HW9 := Lib.hid (HG8.out.step hg9); have HG89 := Lib.hid hg9
    clear hg9
    have HNB := Lib.hid (show ∀ b, w6.heap.size ≤ b → ¬ (b = B1) from fun b hb e => by have := HB5.out.1; have := HG56.out.size; omega)
    go_wp2_with fail
    refine (keepNodesSame (fun b => w6.heap.size ≤ b) (fun _ => True) _ _ nodes _ ((H7.out.toR.grow HG78.out).mod HM9.out HNB.out) (HN.out.grow HW9.out)).mono ?_
    rintro e w10 ⟨rfl, hg10⟩
    have HG10 := Lib.hid hg10
    clear hg10
    go_wp2_with fail
    refine (keepEdgesSame (fun b => w7.heap.size ≤ b) (fun _ => True) _ _ edges _ ((H8.out.toR.mod HM9.out (fun b hb => HNB.out b (Nat.le_trans HG67.out.size hb))).grow HG10.out) (HE.out.grow (HW9.out.step HG10.out))).mono ?_
    rintro e w11 ⟨rfl, hg11⟩
    have HG911 := Lib.hid (HG10.out.step hg11)
    have HW11 := Lib.hid (HW9.out.step HG911.out)
    clear hg11 HG10
    have HGRN := Lib.hid (HGR5.out.grow ((((HG56.out.step HG67.out).step HG78.out).step HG89.out).step HG911.out))
    go_wp2_with fail
    refine (refNew _).mono ?_
    rintro e w12 ⟨B2, rfl, hq, hg12⟩
    have HQ := Lib.hid hq; have HG12 := Lib.hid hg12
    clear hq hg12
    go_wp2_with fail
    refine (lawSame _ _ B1 B2 PGraph.empty _ (HGRN.out.grow HG12.out) HQ.out GInv.empty).mono ?_
    rintro e w13 ⟨rfl, hg13⟩
    have HG13 := Lib.hid ((HW11.out.step HG12.out).step hg13)
    clear hg13
    go_wp2_with fail
    refine (lawWakes _).mono ?_
    rintro e w14 ⟨rfl, hg14⟩
    have HG14 := Lib.hid (HG13.out.step hg14)
    clear hg14
    go_wp2
    go_ret
    exact ⟨rfl, HG14.out⟩
end Go.Hg
