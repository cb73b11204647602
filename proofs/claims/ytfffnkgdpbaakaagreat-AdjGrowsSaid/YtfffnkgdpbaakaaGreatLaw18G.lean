/- hedgerowlaw18.AdjGrows: true. No condition. Printed by gen18laws.py. -/
import Derived.Test.YtfffnkgdpbaakaaGreatAdjH
namespace Go.Hg
open Go.RowKit Go.Proofs


set_option maxRecDepth 100000 in
set_option maxHeartbeats 16000000 in
theorem law18Grows (S : Nat → Prop) (v : Value) (l : List POp) (id most : Int) (w : World) (hl : OpsR S w v l) : Calls Tryz.prog 4 #[v, .int .i64 id, .int .i64 most] w fun e w' => e = .returned (.bool true) ∧ Grow w w' := by
  have HL := Lib.hid hl
  have HBX := Lib.hid (Grow.rfl' w)
  clear hl
  go_enter Tryz.func4, Tryz.ntmps4
  go_wp2_with fail
  refine (lawMadeP S v l _ (HL.out.growS HBX.out)).mono ?_
  rintro e w6 h6
  rcases h6 with ⟨rfl, hg6⟩ | ⟨B1, B2, S1, S2, G, rfl, hgd, hi, hk1, hk2, hg6⟩
  · have HG6 := Lib.hid (HBX.out.step hg6)
    clear hg6
    go_wp2_with fail
    refine (law18Wakes _).mono ?_
    rintro e wk ⟨rfl, hgk⟩
    have HGK := Lib.hid ((HG6.out.step hgk))
    clear hgk
    go_wp2
    go_ret
    exact ⟨rfl, HGK.out⟩
  have HG6 := Lib.hid (HBX.out.step hg6)
  have HE := Lib.hid (edgesAt_of hk1.rd hi)
  have H64 := Lib.hid (ends64 hgd)
  have HQ := Lib.hid hk2.rd; have HK1 := Lib.hid hk1; have HK2 := Lib.hid hk2
  have HI := Lib.hid hi
  have HB := Lib.hid (show G.edges.length ≤ 1024 by have := hi.items; omega)
  have HEND := Lib.hid (show ∀ e ∈ G.edges, hasN G e.from_ = true ∧ hasN G e.to_ = true from fun e he => ⟨((goodG_iff.1 hgd).2.edges e he).2.1, ((goodG_iff.1 hgd).2.edges e he).2.2.1⟩)
  clear hg6 hgd hi hk1 hk2
  go_wp2_with fail
  refine (keepMod60 most _).mono ?_
  rintro e w7 ⟨⟨m, hm, rfl⟩, rfl⟩
  go_wp2_with fail
  refine (adjReach _ G.edges id ByteArray.empty m _ HE.out HB.out H64.out (by omega)).mono ?_
  rintro e w7 ⟨va, La, rfl, hLa, hIa, hg7⟩
  obtain ⟨aa, ca, rfl, hla, hca, -⟩ := idsCellL hIa
  have HLA := Lib.hid hLa; have HIA := Lib.hid hIa; have HG7 := Lib.hid hg7
  clear hLa hIa hg7
  go_wp2_with fail
  refine (adjReach _ G.edges id ByteArray.empty ((m : Int) + 1) _ (HE.out.grow HG7.out) HB.out H64.out (by omega)).mono ?_
  rintro e w8 ⟨vb, Lb, rfl, hLb, hIb, hg8⟩
  have HLB := Lib.hid hLb; have HIB := Lib.hid hIb; have HG8 := Lib.hid (HG7.out.step hg8); have HIA8 := Lib.hid (idsGrow HIA.out hg8)
  have HIN := Lib.hid (show ∀ x ∈ La, x ∈ Lb from fun x hx => by
    have h1 := (HLA.out.2 x).1 hx
    rw [Int.toNat_natCast] at h1
    refine (hLb.2 x).2 ?_
    rw [show ((m : Int) + 1).toNat = m + 1 by omega]
    exact h1.succ)
  clear hLb hIb hg8
  go_wp2
  go_loopg [13] La.length (fun g i wr => ∃ k : Nat, k ≤ La.length ∧ g = La.length - k ∧ i = .int .i64 k ∧ wr = w8)
  case atStart => exact ⟨0, by omega, by omega, rfl, rfl⟩
  case round =>
    obtain ⟨k, hk, rfl, rfl, rfl⟩ := hrel
    by_cases hkl : k < La.length
    · have hx := List.getElem?_eq_getElem hkl
      obtain ⟨ba, oa, rfl, hba, a0⟩ := idCells (F := fun _ => False) HIA8.out (Mod.rfl' _ _) (fun _ _ h => h) hx
      have HX := Lib.hid (List.getElem_mem hkl)
      clear hx
      generalize La[k] = x at *
      go_wp2_with fail
      refine (law18In _ vb Lb x _ HIB.out).mono ?_
      rintro e w9 ⟨rfl, rfl⟩
      rw [decide_eq_true (HIN.out x HX.out)]
      go_wp2_with fail
      go_roundg (La.length - (k + 1))
      case measure => omega
      case rel => exact ⟨k + 1, by omega, rfl, by go_num, rfl⟩
    · go_wp2_with fail
      refine (adjReach _ G.edges id ByteArray.empty 1 _ (HE.out.grow HG8.out) HB.out H64.out (by decide)).mono ?_
      rintro e w9 ⟨vc, Lc, rfl, hLc, hIc, hg9⟩
      have HLC := Lib.hid hLc; have HIC := Lib.hid hIc; have HG9 := Lib.hid (HG8.out.step hg9)
      clear hLc hIc hg9
      go_wp2_with fail
      refine (adjNear _ G.edges id ByteArray.empty _ (HE.out.grow HG9.out) HB.out H64.out).mono ?_
      rintro e w10 ⟨vd, Ld, rfl, hLd, hId, hg10⟩
      obtain rfl : Ld = Lc := hLd.uniq HLC.out (fun _ => Iff.rfl)
      have HIC2 := Lib.hid (idsGrow HIC.out hg10); have HID := Lib.hid hId; have HG10 := Lib.hid (HG9.out.step hg10)
      clear hLd hId hg10
      go_wp2_with fail
      refine (keepLongsEq _ _ vc vd Ld _ HIC2.out HID.out).mono ?_
      rintro e w11 ⟨rfl, hg11⟩
      have HG11 := Lib.hid (HG10.out.step hg11)
      clear hg11
      go_wp2_with fail
      refine (adjReach _ G.edges id ByteArray.empty 0 _ (HE.out.grow HG11.out) HB.out H64.out (by decide)).mono ?_
      rintro e w12 ⟨ve, Le, rfl, hLe, hIe, hg12⟩
      obtain rfl : Le = [] := RSet.same hLe.1 .nil (fun y => by rw [hLe.2]; simp [Rch])
      obtain ⟨ea, ec, rfl, -, -, -⟩ := idsCellL hIe
      have HG12 := Lib.hid (HG11.out.step hg12)
      clear hLe hIe hg12
      go_wp2_with fail
      refine (law18Wakes _).mono ?_
      rintro e wk ⟨rfl, hgk⟩
      have HGK := Lib.hid ((HG12.out.step hgk))
      clear hgk
      go_wp2
      go_ret
      exact ⟨rfl, HG6.out.step HGK.out⟩
end Go.Hg
