/- hedgerowlaw18.AdjDegrees: true. No condition. Printed by gen18laws.py. -/
import Derived.Test.YtfffnkgdpbaakaaGreatAdjH
import Derived.Test.YtfffnkgdpbaakaaGreatAdjJ
namespace Go.Hg
open Go.RowKit Go.Proofs


/-- of the first k nodes: the edges of the type that begin (f) there -/
def degAt (f : PEdge → Int) (typ : ByteArray) (G : PGraph) (k : Nat) : Nat := ((G.nodes.map fun n => ((G.edges.filter (fitE typ)).filter fun x => decide (f x = n.id)).length).take k).sum
theorem degAt_succ (f : PEdge → Int) (typ : ByteArray) (G : PGraph) {k : Nat} {n : PNode} (h : G.nodes[k]? = some n) : degAt f typ G (k + 1) = degAt f typ G k + ((G.edges.filter (fitE typ)).filter fun x => decide (f x = n.id)).length := by
  unfold degAt
  rw [List.take_add_one, List.sum_append]
  simp [h]
theorem degAt_all {f : PEdge → Int} {typ : ByteArray} {G : PGraph} (hs : (G.nodes.map (·.id)).Pairwise (· < ·)) (h : ∀ x ∈ G.edges, hasN G (f x) = true) : degAt f typ G G.nodes.length = (G.edges.filter (fitE typ)).length := by
  unfold degAt
  rw [List.take_of_length_le (by simp)]
  exact sum_ends f _ hs _ (fun x hx => hasN_true.1 (h x (List.mem_filter.1 hx).1))
theorem degAt_le {f : PEdge → Int} {typ : ByteArray} {G : PGraph} (hs : (G.nodes.map (·.id)).Pairwise (· < ·)) (h : ∀ x ∈ G.edges, hasN G (f x) = true) (k : Nat) : degAt f typ G k ≤ G.edges.length := by
  have h1 := degAt_all (typ := typ) hs h
  have h2 : (G.edges.filter (fitE typ)).length ≤ G.edges.length := List.length_filter_le _ _
  unfold degAt at h1 ⊢
  rw [List.take_of_length_le (by simp)] at h1
  have := sum_take (G.nodes.map fun n => ((G.edges.filter (fitE typ)).filter fun x => decide (f x = n.id)).length) k
  omega
theorem outN_fil (E : List PEdge) (typ : ByteArray) (x : Int) : ((E.filter (fitE typ)).filter fun y => decide (y.from_ = x)).length = outN E typ x := by
  unfold outN outsE
  rw [List.filter_filter]
  congr 1
  refine List.filter_congr fun y _ => ?_
  exact Bool.and_comm _ _
theorem inN_fil (E : List PEdge) (typ : ByteArray) (x : Int) : ((E.filter (fitE typ)).filter fun y => decide (y.to_ = x)).length = inN E typ x := by
  unfold inN insE
  rw [List.filter_filter]
  congr 1
  refine List.filter_congr fun y _ => ?_
  exact Bool.and_comm _ _
theorem near_len {E : List PEdge} {typ : ByteArray} {x : Int} {L : List Int} (h : RSet L (Rch E typ 1 x)) : L.length ≤ outN E typ x := by
  refine nodup_le (fun e : PEdge => e.to_) (outsE E typ x) L (rises_nodup h.1) (fun y hy => ?_)
  rcases (h.2 y).1 hy with hs | ⟨_, hr, _⟩
  · exact stepE_outs.1 hs
  · exact hr.elim
theorem fil_succ {typ : ByteArray} {E : List PEdge} {k : Nat} {x : PEdge} (hx : E[k]? = some x) : ((E.take (k + 1)).filter (fitE typ)).length = ((E.take k).filter (fitE typ)).length + if fitE typ x = true then 1 else 0 := by
  rw [List.take_add_one, hx, List.filter_append, List.length_append]
  cases h : fitE typ x <;> simp [h]
theorem fil_le (typ : ByteArray) (E : List PEdge) (k : Nat) : ((E.take k).filter (fitE typ)).length ≤ E.length :=
  Nat.le_trans (List.length_filter_le _ _) (List.length_take_le' k E)

set_option maxRecDepth 100000 in
set_option maxHeartbeats 16000000 in
theorem law18Degrees (S : Nat → Prop) (v : Value) (l : List POp) (typ : ByteArray) (w : World) (hl : OpsR S w v l) : Calls Tryz.prog 7 #[v, .string typ] w fun e w' => e = .returned (.bool true) ∧ Grow w w' := by
  have HL := Lib.hid hl
  have HBX := Lib.hid (Grow.rfl' w)
  clear hl
  by_cases ht : 1000 < typ.size
  · go_enter Tryz.func7, Tryz.ntmps7
    go_wp2_with fail
    refine (law18Wakes _).mono ?_
    rintro e wk ⟨rfl, hgk⟩
    have HGK := Lib.hid ((HBX.out.step hgk))
    clear hgk
    go_wp2
    go_ret
    exact ⟨rfl, HGK.out⟩
  go_enter Tryz.func7, Tryz.ntmps7
  go_wp2_with fail
  refine (lawMadeP S v l _ (HL.out.growS HBX.out)).mono ?_
  rintro e w6 h6
  rcases h6 with ⟨rfl, hg6⟩ | ⟨B1, B2, S1, S2, G, rfl, hgd, hi, hk1, hk2, hg6⟩
  · have HG6 := Lib.hid (HBX.out.step hg6)
    clear hg6
    go_wp2_with fail
    refine (law18Wakes _).mono ?_
    rintro e wk ⟨rfl, hgk⟩
    have HGK := Lib.hid ((HG6.out.step hgk))
    clear hgk
    go_wp2
    go_ret
    exact ⟨rfl, HGK.out⟩
  have HG6 := Lib.hid (HBX.out.step hg6)
  have HE := Lib.hid (edgesAt_of hk1.rd hi)
  have H64 := Lib.hid (ends64 hgd)
  have HQ := Lib.hid hk2.rd; have HK1 := Lib.hid hk1; have HK2 := Lib.hid hk2
  have HI := Lib.hid hi
  have HB := Lib.hid (show G.edges.length ≤ 1024 by have := hi.items; omega)
  have HEND := Lib.hid (show ∀ e ∈ G.edges, hasN G e.from_ = true ∧ hasN G e.to_ = true from fun e he => ⟨((goodG_iff.1 hgd).2.edges e he).2.1, ((goodG_iff.1 hgd).2.edges e he).2.2.1⟩)
  clear hg6 hgd hi hk1 hk2
  have HNL := Lib.hid (show G.nodes.length ≤ 1024 by have := HI.out.items; omega)
  go_wp2_with fail
  refine (graphNodes S1 B1 G _ HK1.out.rd (by have := HNL.out; omega) (fun x hx => by have := (HI.out.nodesB x hx).2.2; omega)).mono ?_
  rintro e w7 ⟨v7, o7, rfl, ho7, hob7, hg7⟩
  have hsl := SlR.sub (ho7.toSl (S := fun _ => True) (fun _ _ => trivial)) (fun _ h => h) (fun _ _ _ h => h)
  obtain ⟨na, nc, rfl, hnl, hnc, hA⟩ := SlR.open hsl
  unfold maxLen at hnc
  have HG7 := Lib.hid hg7
  have HNC := Lib.hid (show ∀ (k : Nat) x, G.nodes[k]? = some x → ∃ b o, na = some ⟨b, o, none⟩ ∧ ∀ w', Grow w7 w' → b < w'.heap.size ∧ w'.cell? ⟨b, o + k * 3, none⟩ = some (.int .i64 x.id) from fun k x hx => by
    obtain ⟨b, o, r, ha, -, hb, ⟨pv, rfl, -⟩, hc⟩ := hA k x hx
    exact ⟨b, o, ha, fun w' hg => ⟨Nat.lt_of_lt_of_le hb hg.size, (hg.cell (p := ⟨b, o + k * 3, none⟩) hb).trans (hc 0 _ rfl)⟩⟩)
  clear ho7 hob7 hg7 hsl hA
  go_wp2_with fail
  refine (HE.out _ HG7.out).mono ?_
  rintro e w8 ⟨v8, rfl, hv8, hg8⟩
  obtain ⟨ea, ec, rfl, hel, hec, -⟩ := SlR.open hv8
  unfold maxLen at hec
  have HG78 := Lib.hid hg8
  have HG8 := Lib.hid (HG7.out.step hg8)
  have HEV := Lib.hid hv8
  have HOU := Lib.hid (degAt_le (f := fun x => x.from_) (typ := typ) HI.out.nodes (fun x hx => (HEND.out x hx).1))
  have HIU := Lib.hid (degAt_le (f := fun x => x.to_) (typ := typ) HI.out.nodes (fun x hx => (HEND.out x hx).2))
  clear hv8 hg8
  go_wp2
  go_loopg [8, 9, 13] G.nodes.length (fun g u z i wr => ∃ k : Nat, k ≤ G.nodes.length ∧ g = G.nodes.length - k ∧ u = .int .i64 (degAt (fun x => x.from_) typ G k : Nat) ∧ z = .int .i64 (degAt (fun x => x.to_) typ G k : Nat) ∧ i = .int .i64 k ∧ Grow w8 wr)
  case atStart => exact ⟨0, by omega, by omega, rfl, rfl, rfl, Grow.rfl' _⟩
  case round =>
    obtain ⟨k, hk, rfl, rfl, rfl, rfl, hgk⟩ := hrel
    have HGK := Lib.hid hgk
    clear hgk
    by_cases hkl : k < G.nodes.length
    · have hx := List.getElem?_eq_getElem hkl
      have HSO := Lib.hid (degAt_succ (fun x => x.from_) typ G hx)
      have HSI := Lib.hid (degAt_succ (fun x => x.to_) typ G hx)
      obtain ⟨bn, on, rfl, hcn⟩ := HNC.out k _ hx
      have HCN := Lib.hid hcn
      clear hcn hx
      generalize G.nodes[k] = x at *
      rw [outN_fil] at HSO
      rw [inN_fil] at HSI
      obtain ⟨hb1, a0⟩ := HCN.out _ (HG78.out.step HGK.out)
      have hd1 := HOU.out (k + 1)
      have hd2 := HIU.out (k + 1)
      rw [HSO.out] at hd1
      rw [HSI.out] at hd2
      have hd3 := HB.out
      generalize hdo : degAt (fun x => x.from_) typ G k = dO at *
      generalize hdi : degAt (fun x => x.to_) typ G k = dI at *
      have HDO := Lib.hid hdo; have HDI := Lib.hid hdi
      clear hdo hdi
      go_wp2_with fail
      refine (adjDegree S1 B1 G x.id typ _ (HK1.out.rd.grow (HG8.out.step HGK.out)) HB.out).mono ?_
      rintro e w9 ⟨rfl, hg⟩
      have HG9 := Lib.hid (HGK.out.step hg)
      obtain ⟨hb2, c0⟩ := HCN.out _ (HG78.out.step HG9.out)
      clear hg a0
      generalize hno : outN G.edges typ x.id = nO at *
      generalize hni : inN G.edges typ x.id = nI at *
      have HNO := Lib.hid hno
      clear hno hni
      go_wp2_with fail
      refine (adjNear _ G.edges x.id typ _ (HE.out.grow (HG8.out.step HG9.out)) HB.out H64.out).mono ?_
      rintro e w10 ⟨va, La, rfl, hLa, hIa, hg⟩
      obtain ⟨la, lc, rfl, -, -, -⟩ := idsCellL hIa
      have hle : La.length ≤ nO := by have := near_len hLa; rw [HNO.out] at this; exact this
      have hle2 : ¬ ((nO : Int) < (La.length : Int)) := by omega
      have HG10 := Lib.hid (HG9.out.step hg)
      clear hLa hIa hg c0
      go_wp2_with fail
      go_roundg (G.nodes.length - (k + 1))
      case measure => omega
      case rel => exact ⟨k + 1, by omega, rfl, by rw [HSO.out]; go_num, by rw [HSI.out]; go_num, by go_num, HG10.out⟩
    · have HAO := Lib.hid (show degAt (fun x => x.from_) typ G k = (G.edges.filter (fitE typ)).length by
        obtain rfl : k = G.nodes.length := by omega
        exact degAt_all HI.out.nodes (fun x hx => (HEND.out x hx).1))
      have HAI := Lib.hid (show degAt (fun x => x.to_) typ G k = (G.edges.filter (fitE typ)).length by
        obtain rfl : k = G.nodes.length := by omega
        exact degAt_all HI.out.nodes (fun x hx => (HEND.out x hx).2))
      rw [HAO.out, HAI.out]
      obtain ⟨wo, rfl⟩ : ∃ wo : World, wo = wr := ⟨_, rfl⟩
      clear HAO HAI
      go_wp2
      go_loopg [10, 16] G.edges.length (fun g u i wr => ∃ k : Nat, k ≤ G.edges.length ∧ g = G.edges.length - k ∧ u = .int .i64 (((G.edges.take k).filter (fitE typ)).length : Nat) ∧ i = .int .i64 k ∧ wr = wo)
      case atStart => exact ⟨0, by omega, by omega, by simp, rfl, rfl⟩
      case round =>
        obtain ⟨k, hk, rfl, rfl, rfl, rfl⟩ := hrel
        by_cases hkl : k < G.edges.length
        · have hx := List.getElem?_eq_getElem hkl
          obtain ⟨ba, oa, pa, pc, rfl, hba, a0, a1, a2, a3, a4⟩ := edgeCells (F := fun _ => False) HEV.out (Mod.of_grow HGK.out) (fun _ _ h => h) hx
          have HFS := Lib.hid (fil_succ (typ := typ) hx)
          have hfl := fil_le typ G.edges k
          have hb3 := HB.out
          clear hx
          generalize G.edges[k] = x at *
          generalize hq : ((G.edges.take k).filter (fitE typ)).length = q at *
          have HQQ := Lib.hid hq
          clear hq
          cases ht2 : decide (typ = ByteArray.empty)
          · have hte : (typ.toList == ([] : List UInt8)) = false := (empty_beq typ).trans ht2
            cases hxt : decide (x.typ = typ)
            · have HF := Lib.hid (show ((G.edges.take (k + 1)).filter (fitE typ)).length = q by rw [HFS.out]; simp only [fitE, ht2, hxt]; simp)
              clear ht2
              go_wp2_with fail
              go_roundg (G.edges.length - (k + 1))
              case measure => omega
              case rel => exact ⟨k + 1, by omega, rfl, by rw [HF.out], by go_num, rfl⟩
            · have HF := Lib.hid (show ((G.edges.take (k + 1)).filter (fitE typ)).length = q + 1 by rw [HFS.out]; simp only [fitE, ht2, hxt]; simp)
              clear ht2
              go_wp2_with fail
              go_roundg (G.edges.length - (k + 1))
              case measure => omega
              case rel => exact ⟨k + 1, by omega, rfl, by rw [HF.out]; go_num, by go_num, rfl⟩
          · have hte : (typ.toList == ([] : List UInt8)) = true := (empty_beq typ).trans ht2
            have HF := Lib.hid (show ((G.edges.take (k + 1)).filter (fitE typ)).length = q + 1 by rw [HFS.out]; simp only [fitE, ht2]; simp)
            clear ht2
            go_wp2_with fail
            go_roundg (G.edges.length - (k + 1))
            case measure => omega
            case rel => exact ⟨k + 1, by omega, rfl, by rw [HF.out]; go_num, by go_num, rfl⟩
        · have hkk : G.edges.take k = G.edges := List.take_of_length_le (by omega)
          rw [hkk]
          clear hkk
          generalize (G.edges.filter (fitE typ)).length = q at *
          go_wp2_with fail
          refine (law18Wakes _).mono ?_
          rintro e wk ⟨rfl, hgk⟩
          have HGW := Lib.hid (((Grow.rfl' _).step hgk))
          clear hgk
          go_wp2
          go_ret
          exact ⟨rfl, HG6.out.step ((HG8.out.step HGK.out).step HGW.out)⟩
end Go.Hg
