/- hedgerowref18 Near, Reach: the document's way to the nodes that are reached; hedgerowref18 Path: the document's way to a shortest path; A law's row: how it is closed where the call returns true and nothing that was there has turned; A law's row: its argument of operations, opened; A law's row: arguments of other types, opened; A law's row: numbers, texts, pairs of numbers, opened; Counting edges by the nodes at which they begin; hedgerowref17: Scan, Out, In. Conditions: those that each theorem names. -/
import Derived.Test.YtfffnkgdpbaakaaGreatAdjI
import Derived.Test.YtfffnkgdpbaakaaGreatAdjE
import Derived.Test.YtfffnkgdpbaakaaGreatAdjA
import Derived.RowKit
import Derived.ReadAgain
import Derived.ChangeOld
import Derived.Test.YtfffnkgdpbaakaaGreatAdjG
import Derived.Deep.Slices
import Derived.OpenShut
import Derived.Test.YtfffnkgdpbaakaaGreatAdjH
namespace Go.Hg
open Go.RowKit Go.Proofs

theorem moreI_ends {E : List PEdge} {typ : ByteArray} {id : Int} {n : Nat} {l : List Int} {j : Nat} {m : List Int} {k : Nat} {x : Int} (hm : RSet m (StepE E typ x)) (y : Int) (h : MoreI E typ id n l j m k y) : ∃ e ∈ E, e.to_ = y := by
  rcases h with h | ⟨z, -, e, he, -, -, h⟩ | h
  · exact h.ends
  · exact ⟨e, he, h⟩
  · obtain ⟨e, he, -, -, h⟩ := (hm.2 y).1 (List.mem_of_mem_take h)
    exact ⟨e, he, h⟩
theorem idxZ_neg {G : PGraph} {id : Int} : idxZ (fun x : PNode => x.id) G.nodes id < 0 ↔ hasN G id = false := by
  rw [← decide_eq_true_iff (p := idxZ (fun x : PNode => x.id) G.nodes id < 0), (idxZ_at (fun x : PNode => x.id) G.nodes id).neg, Bool.not_eq_true']
  rfl
/-- what Near and Reach tell -/
def SetPost (p : Int → Prop) (w : World) (e : Ending) (w' : World) : Prop :=
  ∃ v L ob, e = .returned v ∧ RSet L p ∧ IdsO w' v L ob ∧ (∀ q, ob = some q → w.heap.size ≤ q) ∧ Grow w w'
set_option maxRecDepth 100000 in
set_option maxHeartbeats 4000000 in
theorem ref18Near (S : Nat → Prop) (B : Nat) (G : PGraph) (id : Int) (typ : ByteArray) (w : World) (h : GraphRd 89 S w B G) (hb : G.edges.length ≤ 1024) (hend : ∀ e ∈ G.edges, hasN G e.from_ = true) :
    Calls Tryz.prog 23 #[.pointer (some ⟨B, 0, none⟩), .int .i64 id, .string typ] w (SetPost (StepE G.edges typ id) w) := by
  have HGRD := Lib.hid h; have HB := Lib.hid hb
  obtain ⟨na, nc, ea, ec, hB, c0, c1, c2, -, hn⟩ := h.read
  obtain ⟨_, _, hv, hal, hac, hA⟩ := SlR.open hn
  simp only [Value.slice.injEq, true_and] at hv
  obtain ⟨rfl, rfl⟩ := hv
  unfold maxLen at hac
  have HS := Lib.hid (show ∀ w', Grow w w' → B < w'.heap.size ∧ w'.cell? ⟨B, 1, none⟩ = some (.slice ea G.edges.length ec) from fun w' hg => ⟨Nat.lt_of_lt_of_le hB hg.size, (hg.cell (p := ⟨B, 1, none⟩) hB).trans c1⟩)
  have HCE := Lib.hid (show ∀ (k : Nat) x, G.edges[k]? = some x → ∃ ba oa pa pc, ea = some ⟨ba, oa, none⟩ ∧ ∀ w', Grow w w' → ba < w'.heap.size ∧ w'.cell? ⟨ba, oa + k * 5, none⟩ = some (.int .i64 x.id) ∧ w'.cell? ⟨ba, oa + k * 5 + 1, none⟩ = some (.string x.typ) ∧ w'.cell? ⟨ba, oa + k * 5 + 2, none⟩ = some (.int .i64 x.from_) ∧ w'.cell? ⟨ba, oa + k * 5 + 3, none⟩ = some (.int .i64 x.to_) ∧ w'.cell? ⟨ba, oa + k * 5 + 4, none⟩ = some (.slice pa x.props.length pc) from fun k x hx => by
    obtain ⟨ba, oa, r, rfl, hS, hb, ⟨pv, rfl, hp⟩, hc⟩ := hA k x hx
    obtain ⟨pa, pc, rfl⟩ := hp.isSlice
    refine ⟨ba, oa, pa, pc, rfl, fun w' hg => ?_⟩
    have e : ∀ o', w'.cell? ⟨ba, o', none⟩ = w.cell? ⟨ba, o', none⟩ := fun o' => World.cell?_of_block (w := w) (hg.heapEq hb)
    refine ⟨Nat.lt_of_lt_of_le hb hg.size, ?_, ?_, ?_, ?_, ?_⟩ <;> rw [e]
    · exact hc 0 _ rfl
    · exact hc 1 _ rfl
    · exact hc 2 _ rfl
    · exact hc 3 _ rfl
    · exact hc 4 _ rfl)
  by_cases hneg : idxZ (fun x : PNode => x.id) G.nodes id < 0
  · have HN := Lib.hid (show RSet [] (StepE G.edges typ id) from .nil fun y => by
      rintro ⟨e, he, -, hf, -⟩
      have h1 := hend e he
      rw [hf, idxZ_neg.1 hneg] at h1
      cases h1)
    clear h hn hA hend c0 c1 c2
    go_enter Tryz.func23, Tryz.ntmps23
    go_wp2_with fail
    refine (refNode S B G id _ HGRD.out).mono ?_
    rintro e w2 ⟨rfl, rfl⟩
    go_wp2
    go_ret
    exact ⟨_, [], none, rfl, HN.out, OwnS.nil _ _ _, by simp, Grow.rfl' _⟩
  have hneg' : decide (idxZ (fun x : PNode => x.id) G.nodes id < 0) = false := by simpa using hneg
  generalize hix : idxZ (fun x : PNode => x.id) G.nodes id = ix at *
  have HIX := Lib.hid hix
  clear h hn hA hend c0 c1 c2 hix
  go_enter Tryz.func23, Tryz.ntmps23
  go_wp2_with fail
  refine (refNode S B G id _ HGRD.out).mono ?_
  rintro e w2 ⟨rfl, rfl⟩
  rw [HIX.out]
  generalize G.edges = E at *
  go_wp2
  go_loopg [7, 8] E.length (fun g lv i wr => ∃ (k : Nat) (L : List Int) (ob : Option Nat), k ≤ E.length ∧ g = E.length - k ∧ i = .int .i64 k ∧ RSet L (NearI E typ id k) ∧ IdsO wr lv L ob ∧ (∀ q, ob = some q → w2.heap.size ≤ q) ∧ Grow w2 wr)
  case atStart => exact ⟨0, [], none, by omega, by omega, rfl, near_start id, OwnS.nil _ _ _, by simp, Grow.rfl' w2⟩
  case round =>
    obtain ⟨k, L, ob, hk, rfl, rfl, hrs, hown, hob, hgr⟩ := hrel
    have HRS := Lib.hid hrs; have HOWN := Lib.hid hown; have HOB := Lib.hid hob; have HGR := Lib.hid hgr
    obtain ⟨hBr, c1r⟩ := HS.out _ HGR.out
    clear hrs hown hob hgr
    by_cases hkl : k < E.length
    · have hx := List.getElem?_eq_getElem hkl
      obtain ⟨ba, oa, pa, pc, rfl, hcells⟩ := HCE.out k E[k] hx
      obtain ⟨hba, a0, a1, a2, a3, a4⟩ := hcells _ HGR.out
      have HCC := Lib.hid hcells
      have HX := Lib.hid hx
      clear hx hcells
      generalize E[k] = x at *
      by_cases hf : x.from_ = id
      · have hfb : (x.from_ == id) = true := by simpa using hf
        have HF := Lib.hid hf
        clear hf
        go_wp2_with fail
        refine (ref18Fits x _ typ _).mono ?_
        rintro e w3 ⟨rfl, hg3⟩
        have HG3 := Lib.hid (HGR.out.step hg3)
        obtain ⟨hBr3, c1r3⟩ := HS.out _ HG3.out
        obtain ⟨hba3, b0, b1, b2, b3, b4⟩ := HCC.out _ HG3.out
        have HO3 := Lib.hid (HOWN.out.grow hg3)
        clear hg3 a0 a1 a2 a3 a4 c1r
        cases hfit : fitE typ x
        · have HNX := Lib.hid (show RSet L (NearI E typ id (k + 1)) from near_skip HRS.out HX.out (fun h => by rw [hfit] at h; exact absurd h.1 (by simp)))
          clear hfit
          go_wp2_with fail
          go_roundg (E.length - (k + 1))
          case measure => omega
          case rel => exact ⟨k + 1, L, ob, by omega, rfl, by go_num, HNX.out, HO3.out, HOB.out, HG3.out⟩
        · have HNX := Lib.hid (show RSet (putL L x.to_) (NearI E typ id (k + 1)) from near_put HRS.out HX.out hfit HF.out)
          have HLL := Lib.hid (show L.length ≤ 4096 by
            have := HRS.out.len (E := E) (fun e => e.to_) (fun y ⟨e, he, _, _, h⟩ => ⟨e, List.mem_of_mem_take he, h⟩)
            have := HB.out
            omega)
          clear hfit
          go_wp2_with fail
          refine (ref18Put _ L x.to_ ob _ HO3.out HLL.out).mono ?_
          rintro e w4 ⟨v4, ob4, rfl, ho4, hob4, hg4⟩
          have HO4 := Lib.hid ho4
          have HG4 := Lib.hid (HG3.out.step hg4)
          have HOB4 := Lib.hid (show ∀ q, ob4 = some q → w2.heap.size ≤ q from fun q hq => by
            rcases hob4 with h | h
            · exact HOB.out q (by rw [← h]; exact hq)
            · exact Nat.le_trans HG3.out.size (h q hq))
          clear ho4 hob4 hg4 b0 b1 b2 b3 b4 c1r3
          go_wp2_with fail
          go_roundg (E.length - (k + 1))
          case measure => omega
          case rel => exact ⟨k + 1, _, ob4, by omega, rfl, by go_num, HNX.out, HO4.out, HOB4.out, HG4.out⟩
      · have hfb : (x.from_ == id) = false := by simpa using hf
        have HNX := Lib.hid (show RSet L (NearI E typ id (k + 1)) from near_skip HRS.out HX.out (fun h => hf h.2))
        clear hf
        go_wp2_with fail
        go_roundg (E.length - (k + 1))
        case measure => omega
        case rel => exact ⟨k + 1, L, ob, by omega, rfl, by go_num, HNX.out, HOWN.out, HOB.out, HGR.out⟩
    · have HFIN := Lib.hid (show RSet L (StepE E typ id) from near_done (by
        obtain rfl : k = E.length := by omega
        exact HRS.out))
      go_wp2
      go_ret
      exact ⟨_, L, ob, rfl, HFIN.out, HOWN.out, HOB.out, HGR.out⟩

set_option maxRecDepth 100000 in
set_option maxHeartbeats 8000000 in
theorem ref18Reach (S : Nat → Prop) (B : Nat) (G : PGraph) (id : Int) (typ : ByteArray) (most : Int) (w : World) (h : GraphRd 89 S w B G) (hb : G.edges.length ≤ 1024) (hend : ∀ e ∈ G.edges, hasN G e.from_ = true) (hm : most ≤ 1048576) :
    Calls Tryz.prog 24 #[.pointer (some ⟨B, 0, none⟩), .int .i64 id, .string typ, .int .i64 most] w (SetPost (Rch G.edges typ most.toNat id) w) := by
  have HGRD := Lib.hid h; have HB := Lib.hid hb; have HEND := Lib.hid hend
  by_cases hneg : idxZ (fun x : PNode => x.id) G.nodes id < 0
  · have HN := Lib.hid (show RSet [] (Rch G.edges typ most.toNat id) from .nil fun y hy => by
      obtain ⟨e, he, hf⟩ := hy.from
      have h1 := hend e he
      rw [hf, idxZ_neg.1 hneg] at h1
      cases h1)
    clear h hb hend
    go_enter Tryz.func24, Tryz.ntmps24
    go_wp2_with fail
    refine (refNode S B G id _ HGRD.out).mono ?_
    rintro e w2 ⟨rfl, rfl⟩
    go_wp2
    go_ret
    exact ⟨_, [], none, rfl, HN.out, OwnS.nil _ _ _, by simp, Grow.rfl' _⟩
  have hneg' : decide (idxZ (fun x : PNode => x.id) G.nodes id < 0) = false := by simpa using hneg
  generalize hix : idxZ (fun x : PNode => x.id) G.nodes id = ix at *
  have HIX := Lib.hid hix
  clear h hb hend hix
  by_cases hm1 : most < 1
  · have HN := Lib.hid (show RSet [] (Rch G.edges typ most.toNat id) from .nil fun y hy => by
      have : most.toNat = 0 := by omega
      rw [this] at hy
      exact hy)
    go_enter Tryz.func24, Tryz.ntmps24
    go_wp2_with fail
    refine (refNode S B G id _ HGRD.out).mono ?_
    rintro e w2 ⟨rfl, rfl⟩
    rw [HIX.out]
    go_wp2
    go_ret
    exact ⟨_, [], none, rfl, HN.out, OwnS.nil _ _ _, by simp, Grow.rfl' _⟩
  have hm1' : decide (most < 1) = false := by simpa using hm1
  go_enter Tryz.func24, Tryz.ntmps24
  go_wp2_with fail
  refine (refNode S B G id _ HGRD.out).mono ?_
  rintro e w2 ⟨rfl, rfl⟩
  rw [HIX.out]
  go_wp2_with fail
  refine (ref18Near S B G id typ _ HGRD.out HB.out HEND.out).mono ?_
  rintro e w3 ⟨v3, L3, ob3, rfl, hl3, ho3, hob3, hg3⟩
  have HL3 := Lib.hid (near_rch hl3); have HO3 := Lib.hid ho3; have HOB3 := Lib.hid hob3; have HG3 := Lib.hid hg3
  clear hl3 ho3 hob3 hg3
  go_wp2
  go_loopg [9, 10] (most.toNat - 1) (fun g lv n wr => ∃ (k : Nat) (L : List Int) (ob : Option Nat), 1 ≤ k ∧ k ≤ most.toNat ∧ g = most.toNat - k ∧ n = .int .i64 k ∧ RSet L (Rch G.edges typ k id) ∧ IdsO wr lv L ob ∧ (∀ q, ob = some q → w2.heap.size ≤ q) ∧ Grow w2 wr)
  case atStart => exact ⟨1, L3, ob3, by omega, by omega, by omega, rfl, HL3.out, HO3.out, HOB3.out, HG3.out⟩
  case round =>
    obtain ⟨wo, rfl⟩ : ∃ wo : World, wo = wr := ⟨_, rfl⟩
    obtain ⟨k, L, ob, hk1, hk, rfl, rfl, hrl0, hown, hob, hgo⟩ := hrel
    have HRL := Lib.hid hrl0; have HOWN := Lib.hid hown; have HOB := Lib.hid hob; have HGO := Lib.hid hgo
    have HLR := Lib.hid (hown.toR (S := fun _ => True) (fun _ _ => trivial))
    have HK1 := Lib.hid hk1
    obtain ⟨la, lc, rfl, hll, hlc⟩ := hown.isSlice
    unfold maxLen at hlc
    clear hrl0 hown hob hgo hk1
    by_cases hkm : (k : Int) < most
    · have HKM := Lib.hid hkm
      have HM0 := Lib.hid (show RSet L (MoreI G.edges typ id k L 0 [] 0) from more_start HRL.out)
      go_wp2_with fail
      go_loopg [11, 12] L.length (fun g rv jv wz => ∃ (j : Nat) (R : List Int) (obr : Option Nat), j ≤ L.length ∧ g = L.length - j ∧ jv = .int .i64 j ∧ RSet R (MoreI G.edges typ id k L j [] 0) ∧ IdsO wz rv R obr ∧ (∀ q, obr = some q → w2.heap.size ≤ q) ∧ Grow wo wz)
      case atStart => exact ⟨0, L, ob, by omega, by omega, rfl, HM0.out, HOWN.out, HOB.out, Grow.rfl' wo⟩
      case round =>
        obtain ⟨wz, rfl⟩ : ∃ wz : World, wz = wr := ⟨_, rfl⟩
        obtain ⟨j, R, obr, hj, rfl, rfl, hmo, hown, hobr, hgz⟩ := hrel
        have HMO := Lib.hid hmo; have HOR := Lib.hid hown; have HOBR := Lib.hid hobr; have HGZ := Lib.hid hgz
        obtain ⟨ra, rc, rfl, hrl, hrc⟩ := hown.isSlice
        unfold maxLen at hrc
        clear hmo hown hobr hgz
        by_cases hjl : j < L.length
        · have hx := List.getElem?_eq_getElem hjl
          obtain ⟨ba, oa, rfl, hba, a0⟩ := idCells (F := fun _ => False) HLR.out (Mod.of_grow HGZ.out) (fun _ _ h => h) hx
          have HJ := Lib.hid hx
          clear hx
          generalize L[j] = x at *
          go_wp2_with fail
          refine (ref18Near S B G x typ _ (HGRD.out.grow (HGO.out.step HGZ.out)) HB.out HEND.out).mono ?_
          rintro e w6 ⟨mv, m, obm, rfl, hm, hom, hobm, hg6⟩
          have HM := Lib.hid hm
          have HG5 := Lib.hid (HGZ.out.step hg6)
          have HG6 := Lib.hid (HGO.out.step HG5.out)
          have HMR := Lib.hid (hom.toR (S := fun _ => True) (fun _ _ => trivial))
          have HO6 := Lib.hid (HOR.out.grow hg6)
          have HM0 := Lib.hid (show RSet R (MoreI G.edges typ id k L j m 0) from HMO.out.congr fun y => by simp [MoreI])
          obtain ⟨ma, mc, rfl, hml, hmc⟩ := hom.isSlice
          unfold maxLen at hmc
          clear hm hom hobm hg6 a0
          go_wp2_with fail
          go_loopg [11, 14] m.length (fun g rv qv wy => ∃ (q : Nat) (R : List Int) (obr : Option Nat), q ≤ m.length ∧ g = m.length - q ∧ qv = .int .i64 q ∧ RSet R (MoreI G.edges typ id k L j m q) ∧ IdsO wy rv R obr ∧ (∀ q, obr = some q → w2.heap.size ≤ q) ∧ Grow w6 wy)
          case atStart => exact ⟨0, R, obr, by omega, by omega, rfl, HM0.out, HO6.out, HOBR.out, Grow.rfl' w6⟩
          case round =>
            clear HOR HMO HOBR HO6 HM0 hrl hrc
            obtain ⟨wy, rfl⟩ : ∃ wy : World, wy = wr := ⟨_, rfl⟩
            obtain ⟨q, R, obr, hq, rfl, rfl, hmo, hown, hobr, hgy⟩ := hrel
            have HMO := Lib.hid hmo; have HOR := Lib.hid hown; have HOBR := Lib.hid hobr; have HGY := Lib.hid hgy
            clear hmo hown hobr hgy
            by_cases hql : q < m.length
            · have hx := List.getElem?_eq_getElem hql
              obtain ⟨ba, oa, rfl, hba, a0⟩ := idCells (F := fun _ => False) HMR.out (Mod.of_grow HGY.out) (fun _ _ h => h) hx
              have HQ := Lib.hid hx
              clear hx
              generalize m[q] = y at *
              have HRL := Lib.hid (show R.length ≤ 4096 by
                have := HMO.out.len (E := G.edges) (fun e => e.to_) (moreI_ends HM.out)
                have := HB.out
                omega)
              go_wp2_with fail
              refine (ref18Put _ R y obr _ HOR.out HRL.out).mono ?_
              rintro e w7 ⟨v7, ob7, rfl, ho7, hob7, hg7⟩
              have HO7 := Lib.hid ho7
              have HG7 := Lib.hid (HGY.out.step hg7)
              have HOB7 := Lib.hid (show ∀ q, ob7 = some q → w2.heap.size ≤ q from fun q hq => by
                rcases hob7 with h | h
                · exact HOBR.out q (by rw [← h]; exact hq)
                · have h1 := (HG6.out.step HGY.out).size
                  exact Nat.le_trans h1 (h q hq))
              have HMX := Lib.hid (more_put HMO.out HQ.out)
              clear ho7 hob7 hg7 a0
              go_wp2_with fail
              go_roundg (m.length - (q + 1))
              case measure => omega
              case rel => exact ⟨q + 1, _, ob7, by omega, rfl, by go_num, HMX.out, HO7.out, HOB7.out, HG7.out⟩
            · have HMX := Lib.hid (show RSet R (MoreI G.edges typ id k L (j + 1) [] 0) from more_next (by
                obtain rfl : q = m.length := by omega
                exact HMO.out) HJ.out HM.out)
              have HG7 := Lib.hid (show Grow wo wy from HG5.out.step HGY.out)
              go_wp2_with fail
              go_roundg (L.length - (j + 1))
              case measure => omega
              case rel => exact ⟨j + 1, R, obr, by omega, rfl, by go_num, HMX.out, HOR.out, HOBR.out, HG7.out⟩
        · have HMD := Lib.hid (show RSet R (Rch G.edges typ (k + 1) id) from more_done (m := []) HK1.out HRL.out (by
            obtain rfl : j = L.length := by omega
            exact HMO.out))
          by_cases hlen : R.length = L.length
          · have hlb : ((R.length : Int) == (L.length : Int)) = true := by simp [hlen]
            have hlb2 : decide (R.length = L.length) = true := by simp [hlen]
            have HST := Lib.hid (more_stop (k := most.toNat) HRL.out HMD.out hlen (by have := HKM.out; omega))
            have HOL := Lib.hid (HOWN.out.grow HGZ.out)
            have HGF := Lib.hid (HGO.out.step HGZ.out)
            go_wp2
            go_ret
            exact ⟨_, L, ob, rfl, HST.out, HOL.out, HOB.out, HGF.out⟩
          · have hlb : ((R.length : Int) == (L.length : Int)) = false := beq_eq_false_iff_ne.2 (by omega)
            have hlb2 : decide (R.length = L.length) = false := by simpa using hlen
            clear hlen
            go_wp2_with fail
            go_roundg (most.toNat - (k + 1))
            case measure => omega
            case rel => exact ⟨k + 1, R, obr, by omega, by omega, rfl, by go_num, HMD.out, HOR.out, HOBR.out, HGO.out.step HGZ.out⟩
    · have HKE := Lib.hid (show k = most.toNat by omega)
      go_wp2
      go_ret
      exact ⟨_, L, ob, rfl, by rw [← HKE.out]; exact HRL.out, HOWN.out, HOB.out, HGO.out⟩
end Go.Hg

namespace Go.Hg
open Go.RowKit Go.Proofs

theorem infoIds : (Tryz.prog.info? 30).map (fun i => (i.zero, i.size, i.bytes)) = some (some (.slice none 0 0), 1, 24) := by kernel_rfl
theorem same_gr {P : Program} {f : FuncId} {args : Array Value} {w : World} {v : Value} (h : Calls P f args w fun e w' => e = .returned v ∧ w = w') : Calls P f args w fun e w' => e = .returned v ∧ Grow w w' :=
  h.mono fun _ _ ⟨he, hw⟩ => ⟨he, by subst hw; exact Grow.rfl' _⟩
theorem ref18FitsB (e : PEdge) (pv : Value) (typ : ByteArray) (w : World) (b : Bool) (hb : fitE typ e = b) : Calls Tryz.prog 36 #[.agg #[.int .i64 e.id, .string e.typ, .int .i64 e.from_, .int .i64 e.to_, pv], .string typ] w fun r w' => r = .returned (.bool b) ∧ Grow w w' := hb ▸ ref18Fits e pv typ w
theorem ref18HasB (S : Nat → Prop) (v : Value) (l : List Int) (n : Int) (w : World) (b : Bool) (hb : decide (n ∈ l) = b) (h : IdsR S w v l) : Calls Tryz.prog 35 #[v, .int .i64 n] w fun e w' => e = .returned (.bool b) ∧ Grow w w' := hb ▸ same_gr (ref18Has S v l n w h)
def RIds (S : Nat → Prop) (w : World) (L : List Int) (r : List Value) : Prop := ∃ v, r = [v] ∧ IdsR S w v L
/-- a row of rows of numbers: the outer one is one's own -/
def LaysO (W : Nat) (w : World) (v : Value) (lays : List (List Int)) (ob : Option Nat) : Prop :=
  OwnL w 30 1 (RIds (fun b => W ≤ b ∧ ob ≠ some b ∧ b < w.heap.size) w) v lays ob ∧ ∀ q, ob = some q → W ≤ q
theorem LaysO.lt {W : Nat} {w : World} {v : Value} {lays : List (List Int)} {ob : Option Nat} (h : LaysO W w v lays ob) : ∀ q, ob = some q → q < w.heap.size := h.1.ltG
theorem RIds.move {S S' : Nat → Prop} {w w' : World} {L : List Int} {r : List Value} (h : RIds S w L r) (hw : ∀ b, S b → b < w.heap.size → w'.heap[b]? = w.heap[b]?) (hs : w.heap.size ≤ w'.heap.size) (hS : ∀ b, S b → S' b) : RIds S' w' L r := by
  obtain ⟨v, hr, h⟩ := h
  exact ⟨v, hr, SlR.sub (SlR.keep h hw hs (fun _ _ _ h => h)) hS (fun _ _ _ h => h)⟩
theorem LaysO.grow {W : Nat} {w w' : World} {v : Value} {lays : List (List Int)} {ob : Option Nat} (h : LaysO W w v lays ob) (g : Grow w w') : LaysO W w' v lays ob :=
  ⟨h.1.keep (fun k hk => g.heapEq (h.lt k hk)) (fun _ _ _ hR => hR.move (fun _ _ hb => g.heapEq hb) g.size (fun _ hb => ⟨hb.1, hb.2.1, Nat.lt_of_lt_of_le hb.2.2 g.size⟩)), h.2⟩
theorem LaysO.read {W : Nat} {w : World} {v : Value} {lays : List (List Int)} {ob : Option Nat} (h : LaysO W w v lays ob) : ∃ la lc, v = .slice la lays.length lc ∧ lays.length ≤ lc ∧ lc ≤ 9223372036854775807 ∧
    ∀ (k : Nat) L, lays[k]? = some L → ∃ b o vL, la = some ⟨b, o, none⟩ ∧ b < w.heap.size ∧ w.cell? ⟨b, o + k, none⟩ = some vL ∧ IdsR (fun b => W ≤ b) w vL L := by
  obtain ⟨la, lc, hv, h1, h2, hA⟩ := SlR.open (h.1.toSl (S := fun _ => True) (fun _ _ => trivial))
  unfold maxLen at h2
  refine ⟨la, lc, hv, h1, h2, fun k L hk => ?_⟩
  obtain ⟨b, o, r, ha, -, hb, ⟨vL, rfl, hL⟩, hc⟩ := hA k L hk
  exact ⟨b, o, vL, ha, hb, by simpa using hc 0 _ rfl, SlR.sub hL (fun _ h => h.1) (fun _ _ _ h => h)⟩
theorem LaysO.push {W : Nat} {w w1 w' : World} {v' lv : Value} {lays : List (List Int)} {ob ob' : Option Nat} {rows : List (List Value)} {L : List Int} (h1 : rows.length = lays.length)
    (h2 : ∀ (k : Nat) x r, lays[k]? = some x → rows[k]? = some r → RIds (fun b => W ≤ b ∧ ob ≠ some b ∧ b < w.heap.size) w x r ∧ r.length = 1) (hob : ∀ q, ob = some q → W ≤ q) (_hlt : ∀ q, ob = some q → q < w.heap.size)
    (hL : IdsR (fun b => W ≤ b ∧ ob ≠ some b ∧ b < w.heap.size) w lv L) (hg : Grow w w1) (ho : OwnS w' 30 1 v' (lays.length + 1) (rows.flatten ++ [lv]) ob') (hm : Mod (fun y => ob = some y) w1 w')
    (hob' : ob' = ob ∨ ∃ g, ob' = some g ∧ w1.heap.size ≤ g) (hW : W ≤ w.heap.size) : LaysO W w' v' (lays ++ [L]) ob' := by
  have hs1 := hg.size
  have hs2 := hm.size
  have hmv : ∀ x r, RIds (fun b => W ≤ b ∧ ob ≠ some b ∧ b < w.heap.size) w x r → RIds (fun b => W ≤ b ∧ ob' ≠ some b ∧ b < w'.heap.size) w' x r := fun x r h =>
    h.move (fun b hb hlt => (hm.block b (Nat.lt_of_lt_of_le hlt hs1) hb.2.1).trans (hg.heapEq hlt)) (Nat.le_trans hs1 hs2) (fun b hb => ⟨hb.1, fun e => by
      rcases hob' with h | ⟨g, h, hge⟩
      · exact hb.2.1 (h ▸ e)
      · rw [h] at e; cases e; have := hb.2.2; omega, by have := hb.2.2; omega⟩)
  refine ⟨OwnL.push h1 (fun k x r hk hr => ⟨hmv x r (h2 k x r hk hr).1, (h2 k x r hk hr).2⟩) (hmv L [lv] ⟨lv, rfl, hL⟩) rfl ho, fun q hq => ?_⟩
  rcases hob' with h | ⟨g, h, hge⟩
  · exact hob q (h ▸ hq)
  · rw [h] at hq; cases hq; omega
/-- each layer: the nodes that are so far from the end -/
def LaysR (E : List PEdge) (typ : ByteArray) (t : Int) (n : Nat) (lays : List (List Int)) : Prop := lays.length = n + 1 ∧ ∀ (k : Nat) L, lays[k]? = some L → RSet L (Dst E typ t k)
theorem LaysR.push {E : List PEdge} {typ : ByteArray} {t : Int} {n : Nat} {lays : List (List Int)} {L : List Int} (h : LaysR E typ t n lays) (hL : RSet L (Dst E typ t (n + 1))) : LaysR E typ t (n + 1) (lays ++ [L]) := by
  refine ⟨by simp [h.1], fun k x hk => ?_⟩
  by_cases hlt : k < lays.length
  · rw [List.getElem?_append_left hlt] at hk
    exact h.2 k x hk
  · rw [List.getElem?_append_right (by omega)] at hk
    have e : k - lays.length = 0 := by have := (List.getElem?_eq_some_iff.1 hk).1; simp at this; omega
    rw [e] at hk
    simp at hk
    have hk2 : k = n + 1 := by have := h.1; omega
    rw [hk2, ← hk]
    exact hL
theorem RSet.seen_len {E : List PEdge} {typ : ByteArray} {t : Int} {n i : Nat} {sn L : List Int} (h : RSet sn (fun y => (∃ k, k ≤ n ∧ Dst E typ t k y) ∨ y ∈ L.take i)) (hL : RSet L (Dst E typ t (n + 1))) : sn.length ≤ E.length + 1 := by
  have key : ∀ y ∈ sn, y = t ∨ ∃ e ∈ E, e.from_ = y := by
    intro y hy
    have hd : ∃ k, Dst E typ t k y := by
      rcases (h.2 y).1 hy with ⟨k, -, hk⟩ | hy
      · exact ⟨k, hk⟩
      · exact ⟨n + 1, (hL.2 y).1 (List.mem_of_mem_take hy)⟩
    obtain ⟨k, hk⟩ := hd
    by_cases hyt : y = t
    · exact .inl hyt
    · exact .inr (hk.1.ends hyt).1
  have := nodup_le (fun o : Option PEdge => match o with | none => t | some e => e.from_) (none :: E.map some) sn (rises_nodup h.1) (fun y hy => by
    rcases key y hy with rfl | ⟨e, he, rfl⟩
    · exact ⟨none, .head _, rfl⟩
    · exact ⟨some e, .tail _ (List.mem_map.2 ⟨e, he, rfl⟩), rfl⟩)
  simpa using this
/-- what Path tells -/
def PathPost (E : List PEdge) (typ : ByteArray) (from_ t : Int) (w : World) (e : Ending) (w' : World) : Prop :=
  ∃ v L ob, e = .returned v ∧ PathS E typ from_ t L ∧ IdsO w' v L ob ∧ (∀ q, ob = some q → w.heap.size ≤ q) ∧ Grow w w'

set_option maxRecDepth 100000 in
set_option maxHeartbeats 32000000 in
theorem ref18Path (S : Nat → Prop) (B : Nat) (G : PGraph) (from_ t : Int) (typ : ByteArray) (w : World) (h : GraphRd 89 S w B G) (hb : G.edges.length ≤ 1024) (hend : ∀ e ∈ G.edges, hasN G e.from_ = true ∧ hasN G e.to_ = true) :
    Calls Tryz.prog 13 #[.pointer (some ⟨B, 0, none⟩), .int .i64 from_, .int .i64 t, .string typ] w (PathPost G.edges typ from_ t w) := by
  have HGRD := Lib.hid h; have HB := Lib.hid hb
  by_cases hft : from_ = t
  · subst hft
    have hfb : (from_ == from_) = true := by simp
    clear h hb hend
    go_enter Tryz.func13, Tryz.ntmps13
    go_wp2
    go_ret
    exact ⟨_, [], none, rfl, .inl ⟨rfl, rfl⟩, OwnS.nil _ _ _, by simp, Grow.rfl' _⟩
  have hfb : (from_ == t) = false := by simpa using hft
  have HNE := Lib.hid hft
  by_cases hneg : idxZ (fun x : PNode => x.id) G.nodes from_ < 0
  · have HN := Lib.hid (show PathS G.edges typ from_ t [] from .inr (.inl ⟨hft, fun d hw => by
      obtain ⟨e, he, hf⟩ := (hw.ends hft).1
      have h1 := (hend e he).1
      rw [hf, idxZ_neg.1 hneg] at h1
      exact absurd h1 (by simp), rfl⟩))
    clear h hb hend hft
    go_enter Tryz.func13, Tryz.ntmps13
    go_wp2_with fail
    refine (refNode S B G from_ _ HGRD.out).mono ?_
    rintro e w2 ⟨rfl, rfl⟩
    go_wp2
    go_ret
    exact ⟨_, [], none, rfl, HN.out, OwnS.nil _ _ _, by simp, Grow.rfl' _⟩
  have hneg' : decide (idxZ (fun x : PNode => x.id) G.nodes from_ < 0) = false := by simpa using hneg
  by_cases hneh : idxZ (fun x : PNode => x.id) G.nodes t < 0
  · have HN := Lib.hid (show PathS G.edges typ from_ t [] from .inr (.inl ⟨hft, fun d hw => by
      obtain ⟨e, he, hf⟩ := (hw.ends hft).2
      have h1 := (hend e he).2
      rw [hf, idxZ_neg.1 hneh] at h1
      exact absurd h1 (by simp), rfl⟩))
    clear h hb hend hft
    go_enter Tryz.func13, Tryz.ntmps13
    go_wp2_with fail
    refine (refNode S B G from_ _ HGRD.out).mono ?_
    rintro e w2 ⟨rfl, rfl⟩
    go_wp2_with fail
    refine (refNode S B G t _ HGRD.out).mono ?_
    rintro e w2 ⟨rfl, rfl⟩
    go_wp2
    go_ret
    exact ⟨_, [], none, rfl, HN.out, OwnS.nil _ _ _, by simp, Grow.rfl' _⟩
  have hneh' : decide (idxZ (fun x : PNode => x.id) G.nodes t < 0) = false := by simpa using hneh
  obtain ⟨na, nc, ea, ec, hB, c0, c1, c2, -, hn⟩ := h.read
  obtain ⟨_, _, hv, hal, hac, hA⟩ := SlR.open hn
  simp only [Value.slice.injEq, true_and] at hv
  obtain ⟨rfl, rfl⟩ := hv
  unfold maxLen at hac
  obtain ⟨iP, hiP, hzP0, hzP1, hzP2⟩ := info_parts infoInt
  obtain ⟨iL, hiL, hzL0, hzL1, hzL2⟩ := info_parts infoIds
  have HS := Lib.hid (show ∀ w', Grow w w' → B < w'.heap.size ∧ w'.cell? ⟨B, 1, none⟩ = some (.slice ea G.edges.length ec) from fun w' hg => ⟨Nat.lt_of_lt_of_le hB hg.size, (hg.cell (p := ⟨B, 1, none⟩) hB).trans c1⟩)
  have HCE := Lib.hid (show ∀ (k : Nat) x, G.edges[k]? = some x → ∃ ba oa pa pc, ea = some ⟨ba, oa, none⟩ ∧ ∀ w', Grow w w' → ba < w'.heap.size ∧ w'.cell? ⟨ba, oa + k * 5, none⟩ = some (.int .i64 x.id) ∧ w'.cell? ⟨ba, oa + k * 5 + 1, none⟩ = some (.string x.typ) ∧ w'.cell? ⟨ba, oa + k * 5 + 2, none⟩ = some (.int .i64 x.from_) ∧ w'.cell? ⟨ba, oa + k * 5 + 3, none⟩ = some (.int .i64 x.to_) ∧ w'.cell? ⟨ba, oa + k * 5 + 4, none⟩ = some (.slice pa x.props.length pc) from fun k x hx => by
    obtain ⟨ba, oa, r, rfl, hS, hb, ⟨pv, rfl, hp⟩, hc⟩ := hA k x hx
    obtain ⟨pa, pc, rfl⟩ := hp.isSlice
    refine ⟨ba, oa, pa, pc, rfl, fun w' hg => ?_⟩
    have e : ∀ o', w'.cell? ⟨ba, o', none⟩ = w.cell? ⟨ba, o', none⟩ := fun o' => World.cell?_of_block (w := w) (hg.heapEq hb)
    refine ⟨Nat.lt_of_lt_of_le hb hg.size, ?_, ?_, ?_, ?_, ?_⟩ <;> rw [e]
    · exact hc 0 _ rfl
    · exact hc 1 _ rfl
    · exact hc 2 _ rfl
    · exact hc 3 _ rfl
    · exact hc 4 _ rfl)
  generalize hix : idxZ (fun x : PNode => x.id) G.nodes from_ = ix at *
  generalize hiy : idxZ (fun x : PNode => x.id) G.nodes t = iy at *
  have HIX := Lib.hid hix; have HIY := Lib.hid hiy
  clear h hb hend hft hn hA c0 c1 c2 hix hiy
  obtain ⟨W, hW⟩ : ∃ W, W = w.heap.size := ⟨_, rfl⟩
  have HW0 := Lib.hid hW
  have HWW2 := Lib.hid (show w.heap.size ≤ W from Nat.le_of_eq hW.symm)
  have HLO0 := Lib.hid (show LaysO W (((w.alloc (.cells #[.int .i64 t] 2)).alloc (.cells #[.slice (some ⟨w.heap.size, 0, none⟩) 1 1] 30)).alloc (.cells #[.int .i64 t] 2)) (.slice (some ⟨w.heap.size + 1, 0, none⟩) 1 1) [[t]] (some (w.heap.size + 1)) by
    have h := OwnS.lit (w.alloc (.cells #[.int .i64 t] 2)) #[.slice (some ⟨w.heap.size, 0, none⟩) 1 1] 30 1 1 (by unfold maxLen; omega) rfl
    simp only [World.size_alloc] at h
    have h1 : LaysO W ((w.alloc (.cells #[.int .i64 t] 2)).alloc (.cells #[.slice (some ⟨w.heap.size, 0, none⟩) 1 1] 30)) (.slice (some ⟨w.heap.size + 1, 0, none⟩) 1 1) [[t]] (some (w.heap.size + 1)) := by
      refine ⟨⟨[[.slice (some ⟨w.heap.size, 0, none⟩) 1 1]], rfl, fun k x r hk hr => ?_, h⟩, fun q hq => by cases hq; omega⟩
      have hk0 : k = 0 := by have := (List.getElem?_eq_some_iff.1 hk).1; simp at this; omega
      subst hk0
      simp at hk hr
      subst hk; subst hr
      refine ⟨⟨_, rfl, ?_⟩, rfl⟩
      have h2 : IdsO (w.alloc (.cells #[.int .i64 t] 2)) (.slice (some ⟨w.heap.size, 0, none⟩) 1 1) [t] (some w.heap.size) := OwnS.lit w #[.int .i64 t] 2 1 1 (by unfold maxLen; omega) rfl
      exact IdsO.toR (OwnS.grow h2 ((Grow.rfl' _).allocd _)) (fun q hq => by cases hq; exact ⟨by omega, by simp, by simp; omega⟩)
    exact h1.grow ((Grow.rfl' _).allocd _))
  have HOS0 := Lib.hid (show IdsO (((w.alloc (.cells #[.int .i64 t] 2)).alloc (.cells #[.slice (some ⟨w.heap.size, 0, none⟩) 1 1] 30)).alloc (.cells #[.int .i64 t] 2)) (.slice (some ⟨w.heap.size + 2, 0, none⟩) 1 1) [t] (some (w.heap.size + 2)) by
    have h := OwnS.lit ((w.alloc (.cells #[.int .i64 t] 2)).alloc (.cells #[.slice (some ⟨w.heap.size, 0, none⟩) 1 1] 30)) #[.int .i64 t] 2 1 1 (by unfold maxLen; omega) rfl
    simp only [World.size_alloc] at h
    exact h)
  have HG0 := Lib.hid (show ∀ o1 o2 o3, Grow w (((w.alloc o1).alloc o2).alloc o3) from fun o1 o2 o3 => (((Grow.rfl' w).allocd o1).allocd o2).allocd o3)
  have HLR0 := Lib.hid (show LaysR G.edges typ t 0 [[t]] from ⟨rfl, fun k x hk => by
    have hk0 : k = 0 := by have := (List.getElem?_eq_some_iff.1 hk).1; simp at this; omega
    subst hk0
    simp at hk
    subst hk
    exact ⟨by simp, fun y => by rw [List.mem_singleton, Dst.zero]⟩⟩)
  have HSN0 := Lib.hid (show RSet [t] (fun y => ∃ k, k ≤ 0 ∧ Dst G.edges typ t k y) from ⟨by simp, fun y => by
    rw [List.mem_singleton]
    constructor
    · rintro rfl; exact ⟨0, Nat.le_refl _, Dst.zero.2 rfl⟩
    · rintro ⟨k, hk, h⟩
      cases Nat.le_zero.1 hk
      exact Dst.zero.1 h⟩)
  have HOB0 := Lib.hid (show ∀ q, some (w.heap.size + 2) = some q → some (w.heap.size + 1) ≠ some q ∧ W ≤ q from fun q hq => by cases hq; exact ⟨by simp, by omega⟩)
  clear hW
  go_enter Tryz.func13, Tryz.ntmps13
  go_wp2_with fail
  refine (refNode S B G from_ _ HGRD.out).mono ?_
  rintro e w2 ⟨rfl, rfl⟩
  rw [HIX.out]
  go_wp2_with fail
  refine (refNode S B G t _ HGRD.out).mono ?_
  rintro e w ⟨rfl, rfl⟩
  rw [HIY.out]
  go_wp2
  go_loopg [9, 10] (G.edges.length + 1) (fun g lv sv wr => ∃ (n : Nat) (lays : List (List Int)) (sn : List Int) (obn obs : Option Nat), g = G.edges.length + 1 - n ∧ LaysR G.edges typ t n lays ∧ RSet sn (fun y => ∃ k, k ≤ n ∧ Dst G.edges typ t k y) ∧ (∀ k, k < n → ¬ Dst G.edges typ t k from_) ∧ n ≤ G.edges.length ∧ LaysO W wr lv lays obn ∧ IdsO wr sv sn obs ∧ (∀ q, obs = some q → obn ≠ some q ∧ W ≤ q) ∧ Grow w wr)
  case atStart => exact ⟨0, [[t]], [t], _, _, by omega, HLR0.out, HSN0.out, (fun k hk => by omega), by omega, HLO0.out, HOS0.out, HOB0.out, HG0.out _ _ _⟩
  case round =>
    clear HLR0 HSN0 HLO0 HOS0 HOB0 HG0
    obtain ⟨wo, rfl⟩ : ∃ wo : World, wo = wr := ⟨_, rfl⟩
    obtain ⟨n, lays, sn, obn, obs, rfl, hlr, hsn, hnb, hne, hlo, hos, hobs, hgo⟩ := hrel
    have HLR0 := Lib.hid hlr; have HSN := Lib.hid hsn; have HNB0 := Lib.hid hnb; have HLO := Lib.hid hlo; have HOS := Lib.hid hos; have HOBS := Lib.hid hobs; have HGO := Lib.hid hgo
    have HWW := Lib.hid (show W ≤ wo.heap.size from Nat.le_trans (Nat.le_of_eq HW0.out) hgo.size)
    have HSR := Lib.hid (hos.toR (S := fun _ => True) (fun _ _ => trivial))
    have HLL0 := Lib.hid hlr.1
    obtain ⟨na, nc, rfl, hnl1, hnc, hrd⟩ := hlo.read
    rw [hlr.1] at hnl1 ⊢
    obtain ⟨sa, sc, rfl, hsl1, hsc⟩ := hos.isSlice
    obtain ⟨sv, hsv⟩ : ∃ sv, sv = Value.slice sa sn.length sc := ⟨_, rfl⟩
    rw [← hsv] at HOS HSR
    obtain ⟨Ln, hLn⟩ : ∃ Ln, lays[n]? = some Ln := ⟨_, List.getElem?_eq_getElem (by have := hlr.1; omega)⟩
    obtain ⟨bn, on, vn, rfl, hbn, hcn0, hrn⟩ := hrd n Ln hLn
    have HLN := Lib.hid (hlr.2 n Ln hLn)
    have HLNI := Lib.hid hLn
    have HRN := Lib.hid hrn
    have hcn := Lib.hid (show ∀ w', Grow wo w' → w'.cell? ⟨bn, on + n, none⟩ = some vn from fun w' hg => (hg.cell (p := ⟨bn, on + n, none⟩) hbn).trans hcn0)
    have hnb2 : n ≤ 2048 := by have := HB.out; omega
    have HHR := Lib.hid hrd
    have HSV := Lib.hid hsv
    clear hlr hsn hnb hlo hos hobs hgo hrn hLn hrd hsl1 hsc hsv
    rw [← HSV.out]
    go_wp2_with fail
    refine (ref18Has _ vn Ln from_ _ HRN.out).mono ?_
    rintro e w3 ⟨rfl, rfl⟩
    cases hfr : decide (from_ ∈ Ln)
    · have HNB := Lib.hid (show ∀ k, k ≤ n → ¬ Dst G.edges typ t k from_ from fun k hk h => by
        rcases Nat.lt_or_ge k n with h1 | h1
        · exact HNB0.out k h1 h
        · obtain rfl : k = n := by omega
          exact of_decide_eq_false hfr ((HLN.out.2 _).2 h))
      have HLAY0 := Lib.hid (lay_start (E := G.edges) (typ := typ) t n)
      clear hfr hcn0
      go_wp2_with fail
      go_loopg [11, 12] G.edges.length (fun g lv iv wy => ∃ (i : Nat) (L : List Int) (obl : Option Nat), i ≤ G.edges.length ∧ g = G.edges.length - i ∧ iv = .int .i64 i ∧ RSet L (LayI G.edges typ t n i) ∧ IdsO wy lv L obl ∧ (∀ q, obl = some q → wo.heap.size ≤ q) ∧ Grow wo wy)
      case atStart => exact ⟨0, [], none, by omega, by omega, rfl, HLAY0.out, OwnS.nil _ _ _, by simp, Grow.rfl' wo⟩
      case round =>
        have hcn := hcn.out
        obtain ⟨wy, rfl⟩ : ∃ wy : World, wy = wr := ⟨_, rfl⟩
        obtain ⟨i, L, obl, hi, rfl, rfl, hly, hol, hobl, hgy⟩ := hrel
        have HLY := Lib.hid hly; have HOL := Lib.hid hol; have HOBL := Lib.hid hobl; have HGY := Lib.hid hgy
        have HGR := Lib.hid (HGO.out.step hgy)
        clear hly hol hobl hgy
        obtain ⟨hBr, c1r⟩ := HS.out _ HGR.out
        by_cases hkl : i < G.edges.length
        · have hx := List.getElem?_eq_getElem hkl
          obtain ⟨ba, oa, pa, pc, rfl, hcells⟩ := HCE.out i G.edges[i] hx
          obtain ⟨hba, a0, a1, a2, a3, a4⟩ := hcells _ HGR.out
          have HCC := Lib.hid hcells
          have HX := Lib.hid hx
          clear hx hcells
          generalize G.edges[i] = x at *
          have HGO5 := Lib.hid HGY.out
          have d0 := hcn _ HGY.out
          have hbn5 : bn < wy.heap.size := Nat.lt_of_lt_of_le hbn HGY.out.size
          have ef : IntKind.i64.wrap ((n : Int) + 1 - 1) = (n : Int) := by rw [IntKind.wrap_i64]; omega
          cases hfit : fitE typ x
          · have HNX := Lib.hid (show RSet L (LayI G.edges typ t n (i + 1)) from lay_skip HLY.out HX.out (fun h => by rw [hfit] at h; exact absurd h.1 (by simp)))
            go_wp2_with fail
            refine wp_region_grow (by kernel_rfl) (by kernel_rfl) ?_
            repeat (go_big_quiet_step (first | (go_at_call 36; exact calls_gr (ref18FitsB x _ typ _ false hfit))))
            refine wpQuiet_nil ?_
            intro w5 hg5
            have HG5 := Lib.hid (HGY.out.step hg5)
            have HG5W := Lib.hid (HGR.out.step hg5)
            have HO5 := Lib.hid (HOL.out.grow hg5)
            clear hg5 a0 a1 a2 a3 a4 c1r d0 ef
            go_wp2_with fail
            go_roundg (G.edges.length - (i + 1))
            case measure => omega
            case rel => exact ⟨i + 1, L, obl, by omega, rfl, by go_num, HNX.out, HO5.out, HOBL.out, HG5.out⟩
          · have HFT := Lib.hid hfit
            cases hto : decide (x.to_ ∈ Ln)
            · have HNX := Lib.hid (show RSet L (LayI G.edges typ t n (i + 1)) from lay_skip HLY.out HX.out (fun h => of_decide_eq_false hto ((HLN.out.2 _).2 h.2.1)))
              go_wp2_with fail
              refine wp_region_grow (by kernel_rfl) (by kernel_rfl) ?_
              repeat (go_big_quiet_step (first | (go_at_call 36; exact calls_gr (ref18FitsB x _ typ _ true hfit)) | (go_at_call 35; with_reducible exact calls_gr (ref18HasB _ vn Ln x.to_ _ false hto (idsGrow HRN.out (HGO5.out.step (Gr.h _)))))))
              refine wpQuiet_nil ?_
              intro w5 hg5
              have HG5 := Lib.hid (HGY.out.step hg5)
              have HG5W := Lib.hid (HGR.out.step hg5)
              have HO5 := Lib.hid (HOL.out.grow hg5)
              clear hg5 a0 a1 a2 a3 a4 c1r d0 ef
              go_wp2_with fail
              go_roundg (G.edges.length - (i + 1))
              case measure => omega
              case rel => exact ⟨i + 1, L, obl, by omega, rfl, by go_num, HNX.out, HO5.out, HOBL.out, HG5.out⟩
            · have HTO := Lib.hid (show Dst G.edges typ t n x.to_ from (HLN.out.2 _).1 (of_decide_eq_true hto))
              cases hse : decide (x.from_ ∈ sn)
              · have HNX := Lib.hid (show RSet (putL L x.from_) (LayI G.edges typ t n (i + 1)) from lay_put HLY.out HX.out HFT.out HTO.out (fun k hk h => of_decide_eq_false hse ((HSN.out.2 _).2 ⟨k, hk, h⟩)))
                have HLL := Lib.hid (show L.length ≤ 4096 by
                  have := HLY.out.len (E := G.edges) (fun e => e.from_) (fun y h => by
                    obtain ⟨⟨z, ⟨e, he, _, h, _⟩, _⟩, _⟩ := h
                    exact ⟨e, List.mem_of_mem_take he, h⟩)
                  have := HB.out
                  omega)
                go_wp2_with fail
                refine wp_region_grow (by kernel_rfl) (by kernel_rfl) ?_
                repeat (go_big_quiet_step (first | (go_at_call 36; exact calls_gr (ref18FitsB x _ typ _ true hfit)) | (go_at_call 35; with_reducible exact calls_gr (ref18HasB _ vn Ln x.to_ _ true hto (idsGrow HRN.out (HGO5.out.step (Gr.h _))))) | (go_at_call 35; with_reducible exact calls_gr (ref18HasB _ sv sn x.from_ _ false hse (idsGrow HSR.out (HGO5.out.step (Gr.h _)))))))
                refine wpQuiet_nil ?_
                intro w5 hg5
                have HG5 := Lib.hid (HGY.out.step hg5)
                have HG5W := Lib.hid (HGR.out.step hg5)
                have HO5 := Lib.hid (HOL.out.grow hg5)
                obtain ⟨hBr5, c1r5⟩ := HS.out _ HG5W.out
                obtain ⟨hba5, b0, b1, b2, b3, b4⟩ := HCC.out _ HG5W.out
                clear hg5 a0 a1 a2 a3 a4 c1r hba hBr d0 ef
                go_wp2_with fail
                refine (ref18Put _ L x.from_ obl _ HO5.out HLL.out).mono ?_
                rintro e w6 ⟨v6, ob6, rfl, ho6, hob6, hg6⟩
                have HO6 := Lib.hid ho6
                have HG6 := Lib.hid (HG5.out.step hg6)
                have HOB6 := Lib.hid (show ∀ q, ob6 = some q → wo.heap.size ≤ q from fun q hq => by
                  rcases hob6 with h | h
                  · exact HOBL.out q (by rw [← h]; exact hq)
                  · exact Nat.le_trans HG5.out.size (h q hq))
                clear ho6 hob6 hg6 b0 b1 b2 b3 b4 c1r5
                go_wp2_with fail
                go_roundg (G.edges.length - (i + 1))
                case measure => omega
                case rel => exact ⟨i + 1, _, ob6, by omega, rfl, by go_num, HNX.out, HO6.out, HOB6.out, HG6.out⟩
              · have HNX := Lib.hid (show RSet L (LayI G.edges typ t n (i + 1)) from lay_skip HLY.out HX.out (fun h => by
                  obtain ⟨k, hk, hd⟩ := (HSN.out.2 _).1 (of_decide_eq_true hse)
                  exact h.2.2 k hk hd))
                go_wp2_with fail
                refine wp_region_grow (by kernel_rfl) (by kernel_rfl) ?_
                repeat (go_big_quiet_step (first | (go_at_call 36; exact calls_gr (ref18FitsB x _ typ _ true hfit)) | (go_at_call 35; with_reducible exact calls_gr (ref18HasB _ vn Ln x.to_ _ true hto (idsGrow HRN.out (HGO5.out.step (Gr.h _))))) | (go_at_call 35; with_reducible exact calls_gr (ref18HasB _ sv sn x.from_ _ true hse (idsGrow HSR.out (HGO5.out.step (Gr.h _)))))))
                refine wpQuiet_nil ?_
                intro w5 hg5
                have HG5 := Lib.hid (HGY.out.step hg5)
                have HG5W := Lib.hid (HGR.out.step hg5)
                have HO5 := Lib.hid (HOL.out.grow hg5)
                clear hg5 a0 a1 a2 a3 a4 c1r d0 ef
                go_wp2_with fail
                go_roundg (G.edges.length - (i + 1))
                case measure => omega
                case rel => exact ⟨i + 1, L, obl, by omega, rfl, by go_num, HNX.out, HO5.out, HOBL.out, HG5.out⟩
        · have HDN := Lib.hid (show RSet L (Dst G.edges typ t (n + 1)) from lay_done (by
            obtain rfl : i = G.edges.length := by omega
            exact HLY.out))
          obtain ⟨la, lc, rfl, hll, hlc⟩ := HOL.out.isSlice
          unfold maxLen at hlc
          have HGW := Lib.hid (HGO.out.step HGY.out)
          rcases L with _ | ⟨y0, L0⟩
          · have HNW := Lib.hid (show ∀ d, ¬ Wlk G.edges typ t d from_ from lay_none HDN.out (fun k hk h => HNB.out k (by omega) h))
            clear hcn
            go_wp2
            go_ret
            exact ⟨_, [], none, rfl, .inr (.inl ⟨HNE.out, HNW.out, rfl⟩), OwnS.nil _ _ _, by simp, HGW.out⟩
          · have hnl : (((y0 :: L0).length : Int) == 0) = false := beq_eq_false_iff_ne.2 (by simp; omega)
            have HNP := Lib.hid (show n + 1 ≤ G.edges.length from dst_le ((HDN.out.2 y0).1 (.head _)))
            generalize y0 :: L0 = L at *
            clear hcn
            go_wp2_with fail
            go_loopg [10, 13] L.length (fun g sv iv wz => ∃ (i : Nat) (sn : List Int) (obs : Option Nat), i ≤ L.length ∧ g = L.length - i ∧ iv = .int .i64 i ∧ RSet sn (fun y => (∃ k, k ≤ n ∧ Dst G.edges typ t k y) ∨ y ∈ L.take i) ∧ IdsO wz sv sn obs ∧ (∀ q, obs = some q → obn ≠ some q ∧ W ≤ q) ∧ Grow wy wz)
            case atStart => exact ⟨0, sn, obs, by omega, by omega, rfl, HSN.out.congr fun y => by simp, HOS.out.grow HGY.out, HOBS.out, Grow.rfl' wy⟩
            case round =>
              obtain ⟨wz, rfl⟩ : ∃ wz : World, wz = wr := ⟨_, rfl⟩
              obtain ⟨i, sn2, obs2, hi, rfl, rfl, hsn, hos, hobs, hgz⟩ := hrel
              have HSN2 := Lib.hid hsn; have HOS2 := Lib.hid hos; have HOBS2 := Lib.hid hobs; have HGZ := Lib.hid hgz
              clear hsn hos hobs hgz
              by_cases hil : i < L.length
              · have hx := List.getElem?_eq_getElem hil
                obtain ⟨ba, oa, rfl, hba, a0⟩ := idCells (F := fun _ => False) (HOL.out.toR (S := fun _ => True) (fun _ _ => trivial)) (Mod.of_grow HGZ.out) (fun _ _ h => h) hx
                have HX := Lib.hid hx
                clear hx
                generalize L[i] = y at *
                have HSL := Lib.hid (show sn2.length ≤ 4096 by
                  have := HSN2.out.seen_len HDN.out
                  have := HB.out
                  omega)
                go_wp2_with fail
                refine (ref18Put _ sn2 y obs2 _ HOS2.out HSL.out).mono ?_
                rintro e w7 ⟨v7, ob7, rfl, ho7, hob7, hg7⟩
                have HO7 := Lib.hid ho7
                have HG7 := Lib.hid (HGZ.out.step hg7)
                have HOB7 := Lib.hid (show ∀ q, ob7 = some q → obn ≠ some q ∧ W ≤ q from fun q hq => by
                  rcases hob7 with h | h
                  · exact HOBS2.out q (by rw [← h]; exact hq)
                  · have h1 := h q hq
                    have h2 := (HGY.out.step HGZ.out).size
                    have h3 := HGO.out.size
                    have h4 := HWW.out
                    exact ⟨fun e => by have := HLO.out.lt q e; omega, by omega⟩)
                have HNX := Lib.hid (show RSet (putL sn2 y) (fun z => (∃ k, k ≤ n ∧ Dst G.edges typ t k z) ∨ z ∈ L.take (i + 1)) from (HSN2.out.put y).congr fun z => by
                  rw [List.take_add_one, HX.out]
                  simp only [Option.toList_some, List.mem_append, List.mem_singleton, or_assoc])
                clear ho7 hob7 hg7 a0
                go_wp2_with fail
                go_roundg (L.length - (i + 1))
                case measure => omega
                case rel => exact ⟨i + 1, _, ob7, by omega, rfl, by go_num, HNX.out, HO7.out, HOB7.out, HG7.out⟩
              · have HSN3 := Lib.hid (show RSet sn2 (fun y => ∃ k, k ≤ n + 1 ∧ Dst G.edges typ t k y) from HSN2.out.congr fun y => by
                  rw [List.take_of_length_le (by omega), HDN.out.2 y]
                  constructor
                  · rintro (⟨k, hk, h⟩ | h)
                    · exact ⟨k, by omega, h⟩
                    · exact ⟨n + 1, Nat.le_refl _, h⟩
                  · rintro ⟨k, hk, h⟩
                    rcases Nat.lt_or_ge n k with h1 | h1
                    · obtain rfl : k = n + 1 := by omega
                      exact .inr h
                    · exact .inl ⟨k, h1, h⟩)
                have HGZ2 := Lib.hid (HGY.out.step HGZ.out)
                have HLZ := Lib.hid (HLO.out.grow HGZ2.out)
                obtain ⟨rows, hr1, hr2, hos⟩ := HLZ.out.1
                rw [HLL0.out] at hr1 hos
                have HR1 := Lib.hid hr1; have HR2 := Lib.hid hr2
                have HLR := Lib.hid (show IdsR (fun b => W ≤ b ∧ obn ≠ some b ∧ b < wz.heap.size) wz (.slice la L.length lc) L from IdsO.toR (HOL.out.grow HGZ.out) (fun q hq => by
                  have h1 := HOBL.out q hq
                  have h2 := HGO.out.size
                  have h3 := HWW.out
                  exact ⟨by omega, fun e => by have := HLO.out.lt q e; omega, (OwnS.grow HOL.out HGZ.out).lt q hq⟩))
                have HW := Lib.hid (show ∀ o1, Grow wz (wz.alloc o1) from fun o1 => (Grow.rfl' wz).allocd o1)
                have HON := Lib.hid (show ∀ o1, OwnS (wz.alloc o1) 30 1 (.slice (some ⟨bn, on, none⟩) (n + 1) nc) (n + 1) rows.flatten obn from fun o1 => hos.grow (HW.out o1))
                have HRD := Lib.hid (Rd.lit wz #[.slice la L.length lc] 30 1 1 rfl)
                clear hr1 hr2 hos
                go_wp2_with (at_builtin; go_must (refine wpList_append_S _ rfl (.tmp 120) (.tmp 122) 87 rfl 30 iL _ 1 24 Tryz.underlying87 hiL hzL0 hzL1 hzL2 rfl (by decide) (.slice (some ⟨bn, on, none⟩) (n + 1) nc) (n + 1) rows.flatten obn rfl (HON.out _) (.slice (some ⟨wz.heap.size, 0, none⟩) 1 1) rfl 1 _ HRD.out (one1 _ rfl) (by have := HNP.out; have := HB.out; unfold maxLen; omega) (by have := HNP.out; have := HB.out; omega) ?_))
                intro v8 w8 ob8 p1 p2 p3
                have HL8 := Lib.hid (show LaysO W w8 v8 (lays ++ [L]) ob8 from LaysO.push (by rw [HLL0.out]; exact HR1.out) HR2.out HLZ.out.2 (HLZ.out.lt) HLR.out (HW.out _) (by rw [HLL0.out]; exact p1) p2 (by simpa using p3) (Nat.le_trans HWW.out HGZ2.out.size))
                have HS8 := Lib.hid ((HOS2.out.grow (HW.out _)).keep (fun q hq => p2.block q (by have := HOS2.out.lt q hq; simp; omega) (HOBS2.out q hq).1))
                have HOB8 := Lib.hid (show ∀ q, obs2 = some q → ob8 ≠ some q ∧ W ≤ q from fun q hq => by
                  have h1 := HOS2.out.lt q hq
                  refine ⟨fun e => ?_, (HOBS2.out q hq).2⟩
                  rcases p3 with p3 | ⟨g, p3, hge⟩
                  · exact (HOBS2.out q hq).1 (by rw [← p3]; exact e)
                  · rw [p3] at e; cases e; first | omega | (simp at hge; omega))
                have HG8 := Lib.hid (show Grow w w8 from ((HGO.out.step HGZ2.out).step (HW.out _)).modd p2 (fun b hb => Nat.le_trans HWW2.out (HLO.out.2 b hb)))
                have HLR8 := Lib.hid (show LaysR G.edges typ t (n + 1) (lays ++ [L]) from HLR0.out.push HDN.out)
                clear p1 p2 p3
                go_wp2_with fail
                go_roundg (G.edges.length + 1 - (n + 1))
                case measure => have := HNP.out; omega
                case rel => exact ⟨n + 1, lays ++ [L], sn2, ob8, obs2, rfl, HLR8.out, HSN3.out, (fun k hk h => by
                  rcases Nat.lt_or_ge k n with h1 | h1
                  · exact HNB0.out k h1 h
                  · obtain rfl : k = n := by omega
                    exact HNB.out k (Nat.le_refl _) h), by have := HNP.out; omega, HL8.out, HS8.out, HOB8.out, HG8.out⟩
    · have HDF := Lib.hid (show Dst G.edges typ t n from_ from (HLN.out.2 _).1 (of_decide_eq_true hfr))
      clear hfr hcn hcn0
      have hw2 : IntKind.i64.wrap ((n : Int) + 1 - 2) = (n : Int) - 1 := by rw [IntKind.wrap_i64]; omega
      go_wp2_with fail
      go_loopg [14, 15, 16] n (fun g ov av kv wr => ∃ (j : Nat) (z : Int) (pre : List Int) (ob : Option Nat) (kz : Int), j = g ∧ av = .int .i64 z ∧ kv = .int .i64 kz ∧ kz = (j : Int) - 1 ∧ Dst G.edges typ t j z ∧ IdsO wr ov pre ob ∧ (∀ q, ob = some q → wo.heap.size ≤ q) ∧ (∀ l, PathR G.edges typ t j z l → PathR G.edges typ t n from_ (pre ++ l)) ∧ pre.length + j = n ∧ Grow wo wr)
      case atStart => exact ⟨n, from_, [], none, _, rfl, rfl, rfl, (by omega), HDF.out, OwnS.nil _ _ _, by simp, (fun l hl => hl), by simp, Grow.rfl' wo⟩
      case round =>
        obtain ⟨wz, rfl⟩ : ∃ wz : World, wz = wr := ⟨_, rfl⟩
        obtain ⟨j, z, pre, ob, kz, rfl, rfl, rfl, hkz, hdx, hoo, hob, hpr, hde, hgz⟩ := hrel
        have HDX := Lib.hid hdx; have HOO := Lib.hid hoo; have HOB2 := Lib.hid hob; have HPR := Lib.hid hpr; have HDE := Lib.hid hde; have HGZ := Lib.hid hgz
        obtain ⟨oo, co, rfl, -, -⟩ := hoo.isSlice
        clear hdx hoo hob hpr hde hgz hw2
        rcases j with _ | d
        · obtain rfl : kz = -1 := by omega
          obtain rfl : z = t := Dst.zero.1 HDX.out
          have HFIN := Lib.hid (show PathR G.edges typ z n from_ pre by
            have h := HPR.out [] rfl
            rwa [List.append_nil] at h)
          clear hkz
          go_wp2
          go_ret
          exact ⟨_, pre, ob, rfl, .inr (.inr ⟨HNE.out, n, HDF.out, HFIN.out⟩), HOO.out, (fun q hq => Nat.le_trans HGO.out.size (HOB2.out q hq)), HGO.out.step HGZ.out⟩
        · obtain rfl : kz = (d : Int) := by omega
          have hge : decide ((0 : Int) ≤ (d : Int)) = true := by simp
          have hdn : d + 1 ≤ 2048 := by have := HDE.out; omega
          have hdl : d < n + 1 := by have := HDE.out; omega
          have hdl2 : (d : Int) < (n : Int) + 1 := by omega
          have hwd : IntKind.i64.wrap ((d : Int) - 1) = (d : Int) - 1 := by rw [IntKind.wrap_i64]; omega
          obtain ⟨Ld, hLd⟩ : ∃ Ld, lays[d]? = some Ld := ⟨_, List.getElem?_eq_getElem (by have := HLL0.out; omega)⟩
          obtain ⟨b', o', vd, hbo, -, hcd, hrd⟩ := HHR.out d Ld hLd
          simp only [Option.some.injEq, Addr.mk.injEq, and_true] at hbo
          obtain ⟨rfl, rfl⟩ := hbo
          have HCD := Lib.hid hcd; have HRD2 := Lib.hid hrd
          have HLD := Lib.hid (HLR0.out.2 d Ld hLd)
          clear hkz hLd hcd hrd
          go_wp2_with fail
          go_loopg [14, 15, 17] G.edges.length (fun g ov av iv wy => ∃ (i : Nat), i ≤ G.edges.length ∧ g = G.edges.length - i ∧ ov = .slice oo pre.length co ∧ av = .int .i64 z ∧ iv = .int .i64 i ∧ (∀ e' ∈ G.edges.take i, fitE typ e' = true → e'.from_ = z → ¬ Dst G.edges typ t d e'.to_) ∧ Grow wz wy)
          case atStart => exact ⟨0, by omega, by omega, rfl, rfl, rfl, by simp, Grow.rfl' wz⟩
          case round =>
            obtain ⟨wy, rfl⟩ : ∃ wy : World, wy = wr := ⟨_, rfl⟩
            obtain ⟨i, hi, rfl, rfl, rfl, rfl, hno, hgy⟩ := hrel
            have HNO := Lib.hid hno; have HGY := Lib.hid hgy
            have HGR := Lib.hid ((HGO.out.step HGZ.out).step hgy)
            have HGY5 := Lib.hid (HGZ.out.step hgy)
            clear hno hgy
            obtain ⟨hBr, c1r⟩ := HS.out _ HGR.out
            by_cases hkl : i < G.edges.length
            · have hx := List.getElem?_eq_getElem hkl
              obtain ⟨ba, oa, pa, pc, rfl, hcells⟩ := HCE.out i G.edges[i] hx
              obtain ⟨hba, a0, a1, a2, a3, a4⟩ := hcells _ HGR.out
              have HCC := Lib.hid hcells
              have HX := Lib.hid hx
              clear hx hcells
              generalize G.edges[i] = x at *
              have HTK := Lib.hid (show G.edges.take (i + 1) = G.edges.take i ++ [x] by rw [List.take_add_one, HX.out]; rfl)
              have d0 := (HGY5.out.cell (p := ⟨bn, on + d, none⟩) hbn).trans HCD.out
              have hbn5 : bn < wy.heap.size := Nat.lt_of_lt_of_le hbn HGY5.out.size
              cases hfit : fitE typ x
              · have HNX := Lib.hid (show ∀ e' ∈ G.edges.take (i + 1), fitE typ e' = true → e'.from_ = z → ¬ Dst G.edges typ t d e'.to_ by
                  rw [HTK.out]
                  intro e' he' h1 h2
                  rcases List.mem_append.1 he' with he' | he'
                  · exact HNO.out e' he' h1 h2
                  · rw [List.mem_singleton.1 he', hfit] at h1
                    cases h1)
                go_wp2_with fail
                refine wp_region_grow (by kernel_rfl) (by kernel_rfl) ?_
                repeat (go_big_quiet_step (first | (go_at_call 36; exact calls_gr (ref18FitsB x _ typ _ false hfit))))
                refine wpQuiet_nil ?_
                intro w5 hg5
                have HG5 := Lib.hid (HGY.out.step hg5)
                have HG5W := Lib.hid (HGR.out.step hg5)
                clear hg5 a0 a1 a2 a3 a4 c1r d0
                go_wp2_with fail
                go_roundg (G.edges.length - (i + 1))
                case measure => omega
                case rel => exact ⟨i + 1, by omega, rfl, rfl, rfl, by go_num, HNX.out, HG5.out⟩
              · have HFT := Lib.hid hfit
                by_cases hfx : x.from_ = z
                · have hfb : (x.from_ == z) = true := by simpa using hfx
                  have HFX := Lib.hid hfx
                  clear hfx
                  cases hto : decide (x.to_ ∈ Ld)
                  · have HNX := Lib.hid (show ∀ e' ∈ G.edges.take (i + 1), fitE typ e' = true → e'.from_ = z → ¬ Dst G.edges typ t d e'.to_ by
                      rw [HTK.out]
                      intro e' he' h1 h2
                      rcases List.mem_append.1 he' with he' | he'
                      · exact HNO.out e' he' h1 h2
                      · rw [List.mem_singleton.1 he']
                        exact fun h => of_decide_eq_false hto ((HLD.out.2 _).2 h))
                    go_wp2_with fail
                    refine wp_region_grow (by kernel_rfl) (by kernel_rfl) ?_
                    repeat (go_big_quiet_step (first | (go_at_call 36; exact calls_gr (ref18FitsB x _ typ _ true hfit)) | (go_at_call 35; with_reducible exact calls_gr (ref18HasB _ vd Ld x.to_ _ false hto (idsGrow HRD2.out (HGY5.out.step (Gr.h _)))))))
                    refine wpQuiet_nil ?_
                    intro w5 hg5
                    have HG5 := Lib.hid (HGY.out.step hg5)
                    have HG5W := Lib.hid (HGR.out.step hg5)
                    clear hg5 a0 a1 a2 a3 a4 c1r d0
                    go_wp2_with fail
                    go_roundg (G.edges.length - (i + 1))
                    case measure => omega
                    case rel => exact ⟨i + 1, by omega, rfl, rfl, rfl, by go_num, HNX.out, HG5.out⟩
                  · have HTO := Lib.hid (show Dst G.edges typ t d x.to_ from (HLD.out.2 _).1 (of_decide_eq_true hto))
                    go_wp2_with fail
                    refine wp_region_grow (by kernel_rfl) (by kernel_rfl) ?_
                    repeat (go_big_quiet_step (first | (go_at_call 36; exact calls_gr (ref18FitsB x _ typ _ true hfit)) | (go_at_call 35; with_reducible exact calls_gr (ref18HasB _ vd Ld x.to_ _ true hto (idsGrow HRD2.out (HGY5.out.step (Gr.h _)))))))
                    refine wpQuiet_nil ?_
                    intro w5 hg5
                    have HG5 := Lib.hid (HGY.out.step hg5)
                    have HG5W := Lib.hid (HGR.out.step hg5)
                    obtain ⟨hBr5, c1r5⟩ := HS.out _ HG5W.out
                    obtain ⟨hba5, b0, b1, b2, b3, b4⟩ := HCC.out _ HG5W.out
                    have HPX := Lib.hid (show ∀ l, PathR G.edges typ t d x.to_ l → PathR G.edges typ t n from_ ((pre ++ [x.id]) ++ l) from fun l hl => by
                      rw [List.append_assoc]
                      exact HPR.out _ (PathR.cons HX.out HFT.out HFX.out HNO.out HTO.out hl))
                    have HOO5 := Lib.hid (HOO.out.grow HG5.out)
                    have HLN2 := Lib.hid (show pre.length + 1 ≤ 4096 by have := HDE.out; omega)
                    have HW5 := Lib.hid (show ∀ o1, Grow w5 (w5.alloc o1) from fun o1 => (Grow.rfl' w5).allocd o1)
                    have HRX := Lib.hid (Rd.lit w5 #[.int .i64 x.id] 2 1 1 rfl)
                    clear hg5 a0 a1 a2 a3 a4 c1r hba hBr d0
                    go_wp2_with (at_builtin; go_must (refine wpList_append_S _ rfl (.tmp 177) (.tmp 186) 30 rfl 2 iP _ 1 8 Tryz.underlying30 hiP hzP0 hzP1 hzP2 rfl (by decide) (.slice oo pre.length co) pre.length _ ob rfl (HOO5.out.grow (HW5.out _)) (.slice (some ⟨w5.heap.size, 0, none⟩) 1 1) rfl 1 _ HRX.out (one1 _ rfl) (by have := HLN2.out; unfold maxLen; omega) (by have := HLN2.out; omega) ?_))
                    intro v6 w6 ob6 p1 p2 p3
                    have HN6 := Lib.hid (show IdsO w6 v6 (pre ++ [x.id]) ob6 by
                      unfold IdsO
                      rw [List.length_append, List.map_append]
                      exact p1)
                    have HG6 := Lib.hid (show Grow wo w6 from ((HGZ.out.step HG5.out).step (HW5.out _)).modd p2 (fun b hb => HOB2.out b hb))
                    have HO6 := Lib.hid (show ∀ q, ob6 = some q → wo.heap.size ≤ q from fun q hq => by
                      have h1 := (HGZ.out.step HG5.out).size
                      rcases p3 with p3 | ⟨g, p3, hge⟩
                      · exact HOB2.out q (by rw [← p3]; exact hq)
                      · rw [p3] at hq; cases hq; first | omega | (simp at hge; omega))
                    have HG6W := Lib.hid (HGO.out.step HG6.out)
                    obtain ⟨hBr6, c1r6⟩ := HS.out _ HG6W.out
                    obtain ⟨hba6, e0, e1, e2, e3, e4⟩ := HCC.out _ HG6W.out
                    clear p1 p2 p3 hba5 b0 b1 b2 b3 b4 c1r5 hBr5
                    go_wp2_with fail
                    go_roundg d
                    case measure => omega
                    case rel => exact ⟨d, x.to_, pre ++ [x.id], ob6, _, rfl, rfl, rfl, rfl, HTO.out, HN6.out, HO6.out, HPX.out, by rw [List.length_append, List.length_singleton]; have := HDE.out; omega, HG6.out⟩
                · have hfb : (x.from_ == z) = false := by simpa using hfx
                  have HNX := Lib.hid (show ∀ e' ∈ G.edges.take (i + 1), fitE typ e' = true → e'.from_ = z → ¬ Dst G.edges typ t d e'.to_ by
                    rw [HTK.out]
                    intro e' he' h1 h2
                    rcases List.mem_append.1 he' with he' | he'
                    · exact HNO.out e' he' h1 h2
                    · rw [List.mem_singleton.1 he'] at h2
                      exact absurd h2 hfx)
                  clear hfx
                  go_wp2_with fail
                  refine wp_region_grow (by kernel_rfl) (by kernel_rfl) ?_
                  repeat (go_big_quiet_step (first | (go_at_call 36; exact calls_gr (ref18FitsB x _ typ _ true hfit))))
                  refine wpQuiet_nil ?_
                  intro w5 hg5
                  have HG5 := Lib.hid (HGY.out.step hg5)
                  have HG5W := Lib.hid (HGR.out.step hg5)
                  clear hg5 a0 a1 a2 a3 a4 c1r d0
                  go_wp2_with fail
                  go_roundg (G.edges.length - (i + 1))
                  case measure => omega
                  case rel => exact ⟨i + 1, by omega, rfl, rfl, rfl, by go_num, HNX.out, HG5.out⟩
            · exfalso
              obtain ⟨u, ⟨e', he', h1, h2, h3⟩, hu⟩ := HDX.out.step
              have h := HNO.out
              rw [List.take_of_length_le (by omega)] at h
              exact h e' he' h1 h2 (h3 ▸ hu)
end Go.Hg

namespace Go.Hg
open Go.RowKit Go.ChangeShapes

section
variable {H : Type} {enc : TypeId × Value → H} {P : Program} {W W' : World}
theorem sameAt_grow (hg : Grow W W') {p : MemPlace} (hp : p.block < W.heap.size) : W.sameAt W' p := Below.same hg hp
theorem trodAll_grow {base : Nat} {sp : Nat → Bool} {hd : Bool} (hg : Grow W W') : ∀ {ts : List TypeId} {vs : List Value} {ds : List (DataW H)} {ps : List MemPlace}, DataW.TrodAll enc P W base sp hd ts vs ds ps → DataW.TrodAll enc P W' base sp hd ts vs ds ps
  | [], [], [], _, h => h
  | _ :: _, _ :: _, _ :: _, _, ⟨p, q, ⟨n, h1⟩, h2, e⟩ => ⟨p, q, ⟨n, DataW.trod_carry n _ _ _ h1 (fun x hx => sameAt_grow hg (DataW.trod_lt n _ _ _ h1 x hx))⟩, trodAll_grow hg h2, e⟩
/-- The row's closing: the call returned true; nothing that was there has turned. -/
theorem lawPost {f : Func} {s : ChangeSpec} {apart fresh handsOn again : Bool} {args : Array Value} {ds gs : List (DataW H)} {before : List MemPlace} {t : TypeId}
    (K : Kids P (· < P.types.size)) (hz : ∀ t e, t < P.types.size → P.underlying t = some (.slice e) → 0 < P.cellsOf e) (hts : ∀ t ∈ f.params.toList, t < P.types.size)
    (hW : DataW.Whole enc P f.params.toList s.vars apart W args.toList ds gs before) (hv : s.vars = []) (hres : (s.fn H (ds ++ gs)).results = [.lit (.bool true)]) (hargs : (s.fn H (ds ++ gs)).args = ds) (hvars : (s.fn H (ds ++ gs)).vars = [])
    (hrt : f.resultTypes = #[t]) (ht : P.underlying t = some .bool) (hg : Grow W W') : s.post enc P f apart fresh handsOn again W args (.bool true) W' := by
  have hlt := hW.lt
  have hold : ∀ p ∈ before, (fun b => decide (b < W.heap.size)) p.block = true := fun p hp => by simpa using hlt p hp
  have hW2 := hW
  obtain ⟨p, q, h1, h2, e, hfz, hnd⟩ := hW2
  rw [hv] at h2
  obtain ⟨rfl, rfl⟩ : gs = [] ∧ q = [] := by
    cases gs with
    | nil => exact ⟨rfl, h2⟩
    | cons => exact h2.elim
  rw [List.append_nil] at e
  subst e
  have hA : ∀ sp : Nat → Bool, (∀ x ∈ before, sp x.block = true) → DataW.TrodAll enc P W' 0 sp true f.params.toList args.toList (s.fn H (ds ++ [])).args before := fun sp hsp => by
    rw [hargs]
    exact (trodAll_grow hg h1).respare K hz hts hsp
  have hR : ∀ (b : Nat) (sp : Nat → Bool) (hd : Bool), DataW.TrodAll enc P W' b sp hd f.resultTypes.toList ((Value.bool true).resultList f.resultTypes.size) (s.fn H (ds ++ [])).results [] := fun b sp hd => by
    rw [hres, hrt]
    exact ⟨[], [], shut_bool ht true, rfl, rfl⟩
  have hV : ∀ sp : Nat → Bool, DataW.TrodVars enc P W' sp s.vars (s.fn H (ds ++ [])).vars [] := fun sp => by rw [hv, hvars]; rfl
  refine ⟨ds, [], before, [], before, [], hW, hR _ _ _, hA _ hold, hV _, World.keptBut_mono (fun p hp => ⟨hp, ?_⟩) (Below.frame hg (· ∈ before)), fun _ => ?_⟩
  · exact Or.inr (Or.inl hp)
  · refine ⟨ok_one hrt rfl (okWide_bool_mk ht true), _, _, ([] ++ before) ++ [], ⟨[] ++ before, [], trodAll_append (hA _ (fun _ _ => rfl)) (hR _ _ _), hV _, rfl, ?_, ?_⟩, ?_⟩
    · intro b off hp
      have hp' : MemPlace.cell b off ∈ before := by simpa using hp
      rw [Below.frozen hg (p := ⟨b, off, none⟩) (hlt _ hp')]
      exact hfz b off hp'
    · intro ha
      simpa using hnd ha
    · intro p hp _
      simpa using hp
end
end Go.Hg

namespace Go.Hg
open Go.RowKit Go.ChangeShapes Go.WideShapes Go.Deep Go.Proofs

theorem cellsOp : Tryz.prog.cellsOf 63 = 10 := by kernel_rfl
theorem cellsValue : Tryz.prog.cellsOf 61 = 3 := by kernel_rfl
theorem cellsI : Tryz.prog.cellsOf 3 = 1 := by kernel_rfl
theorem cellsI64 : Tryz.prog.cellsOf 2 = 1 := by kernel_rfl
theorem cellsStr : Tryz.prog.cellsOf 9 = 1 := by kernel_rfl
theorem cellsB : Tryz.prog.cellsOf 4 = 1 := by kernel_rfl

section
variable {H : Type} {enc : TypeId × Value → H} {W : World} {base : Nat} {sp : Nat → Bool} {held : Bool}
theorem list3 {α : Type} {l : List α} (h : l.length = 3) : ∃ a b c, l = [a, b, c] := by
  match l, h with
  | [a, b, c], _ => exact ⟨a, b, c, rfl⟩
theorem list10 {α : Type} {l : List α} (h : l.length = 10) : ∃ a b c d e f g i j k, l = [a, b, c, d, e, f, g, i, j, k] := by
  match l, h with
  | [a, b, c, d, e, f, g, i, j, k], _ => exact ⟨a, b, c, d, e, f, g, i, j, k, rfl⟩
theorem field_at {t : TypeId} {fs : Array Field} {n : Nat} {cs : List Value} {xs : List (DataW H × List MemPlace)} (hsz : xs.length = fs.size)
    (hf : ∀ (i : Nat) (f : Field), fs[i]? = some f → DataW.trod enc Tryz.prog W base sp held n f.type ((cs.drop f.offset).take (Tryz.prog.cellsOf f.type)) = xs[i]?) (i : Nat) {f : Field} (hi : fs[i]? = some f) (ht : f.type = t) {c o : Nat} (hc : Tryz.prog.cellsOf t = c) (ho : f.offset = o) :
    ∃ y, DataW.trod enc Tryz.prog W base sp held n t ((cs.drop o).take c) = some y := by
  have h := hf i f hi
  have hlt : i < xs.length := by rw [hsz]; exact (Array.getElem?_eq_some_iff.1 hi).1
  rw [List.getElem?_eq_getElem hlt, ht, hc, ho] at h
  exact ⟨_, h⟩
theorem openValue {n : Nat} {cs : List Value} {x : DataW H × List MemPlace} (h : DataW.trod enc Tryz.prog W base sp held n 61 cs = some x) : ∃ v : PVal, cs = [.int .i64 v.kind, .int .i64 v.n, .string v.s] := by
  obtain ⟨xs, m, -, -, hl, hsz, hf⟩ := DataW.trod_struct Tryz.underlying61 h
  rw [cellsValue] at hl
  obtain ⟨a, b, c, rfl⟩ := list3 hl
  obtain ⟨y0, h0⟩ := field_at hsz hf 0 rfl rfl cellsI rfl
  obtain ⟨y1, h1⟩ := field_at hsz hf 1 rfl rfl cellsI64 rfl
  obtain ⟨y2, h2⟩ := field_at hsz hf 2 rfl rfl cellsStr rfl
  obtain ⟨k, e0, -⟩ := DataW.trod_int Tryz.underlying3 h0
  obtain ⟨j, e1, -⟩ := DataW.trod_int Tryz.underlying2 h1
  obtain ⟨s, e2, -⟩ := DataW.trod_string Tryz.underlying9 h2
  simp at e0 e1 e2
  exact ⟨⟨k, j, s⟩, by rw [e0, e1, e2]⟩
theorem openOp {n : Nat} {cs : List Value} {x : DataW H × List MemPlace} (h : DataW.trod enc Tryz.prog W base sp held n 63 cs = some x) : ∃ o : POp, cs = o.cells := by
  obtain ⟨xs, m, -, -, hl, hsz, hf⟩ := DataW.trod_struct Tryz.underlying63 h
  rw [cellsOp] at hl
  obtain ⟨c0, c1, c2, c3, c4, c5, c6, c7, c8, c9, rfl⟩ := list10 hl
  obtain ⟨y0, h0⟩ := field_at hsz hf 0 rfl rfl cellsI rfl
  obtain ⟨y1, h1⟩ := field_at hsz hf 1 rfl rfl cellsI64 rfl
  obtain ⟨y2, h2⟩ := field_at hsz hf 2 rfl rfl cellsStr rfl
  obtain ⟨y3, h3⟩ := field_at hsz hf 3 rfl rfl cellsI64 rfl
  obtain ⟨y4, h4⟩ := field_at hsz hf 4 rfl rfl cellsI64 rfl
  obtain ⟨y5, h5⟩ := field_at hsz hf 5 rfl rfl cellsStr rfl
  obtain ⟨y6, h6⟩ := field_at hsz hf 6 rfl rfl cellsValue rfl
  obtain ⟨y7, h7⟩ := field_at hsz hf 7 rfl rfl cellsB rfl
  obtain ⟨k, e0, -⟩ := DataW.trod_int Tryz.underlying3 h0
  obtain ⟨id, e1, -⟩ := DataW.trod_int Tryz.underlying2 h1
  obtain ⟨ty, e2, -⟩ := DataW.trod_string Tryz.underlying9 h2
  obtain ⟨fr, e3, -⟩ := DataW.trod_int Tryz.underlying2 h3
  obtain ⟨to, e4, -⟩ := DataW.trod_int Tryz.underlying2 h4
  obtain ⟨nm, e5, -⟩ := DataW.trod_string Tryz.underlying9 h5
  obtain ⟨v, e6⟩ := openValue h6
  obtain ⟨cc, e7, -⟩ := DataW.trod_bool Tryz.underlying4 h7
  simp at e0 e1 e2 e3 e4 e5 e6 e7
  obtain ⟨e6, e61, e62⟩ := e6
  exact ⟨⟨k, id, ty, fr, to, nm, v, cc⟩, by rw [e0, e1, e2, e3, e4, e5, e6, e61, e62, e7]; rfl⟩

theorem cells?_at {b : Nat} {a : Addr} {n : Nat} {cs : List Value} (h : W.cells? b a n = some cs) : cs.length = n ∧ ∀ (j : Nat) c, cs[j]? = some c → W.cell? (a.add j) = some c := by
  unfold World.cells? at h
  split at h
  · have hl := mapM_some_length h
    simp at hl
    refine ⟨hl, fun j c hj => ?_⟩
    have hlt : j < n := by rw [← hl]; exact (List.getElem?_eq_some_iff.1 hj).1
    have := mapM_some_get h j j (by rw [List.getElem?_range hlt])
    rw [this, hj]
  · cases h
set_option maxRecDepth 100000 in
theorem openOps {v : Value} {d : DataW H} {ps : List MemPlace} {r : Reach} {b0 : Nat} (hval : Value.okWide Tryz.prog W r b0 22 v) (h : DataW.Trod enc Tryz.prog W base sp held 22 v d ps) : ∃ l : List POp, OpsR (fun _ => True) W v l := by
  obtain ⟨a0, len0, cap0, rfl⟩ := okWide_slice Tryz.underlying22 hval
  obtain ⟨n, hn⟩ := h
  rcases open_slice Tryz.underlying22 hn with ⟨hc, -⟩ | ⟨a, len, cap, m, n, D, Pl, hc, -, hlc, hcm, hm, -, hel⟩
  · simp [Value.cells] at hc
    obtain ⟨rfl, rfl, rfl⟩ := hc
    exact ⟨[], (OwnL.nil W 0 10 (fun o r => r = POp.cells o)).toSl (by simp)⟩
  · simp [Value.cells] at hc
    obtain ⟨rfl, rfl, rfl⟩ := hc
    rw [cellsOp] at hel
    have hlm : len0 ≤ m := by rw [hm]; split <;> omega
    have key : ∀ i, i < len0 → ∃ o : POp, ∀ (j : Nat) c, o.cells[j]? = some c → W.cell? ((a.add (i * 10)).add j) = some c := by
      intro i hi
      obtain ⟨cs', h1, h2⟩ := hel i (by omega)
      obtain ⟨o, rfl⟩ := openOp h2
      exact ⟨o, (cells?_at h1).2⟩
    obtain ⟨l, hl, hcells⟩ : ∃ l : List POp, l.length = len0 ∧ ∀ i o, l[i]? = some o → ∀ (j : Nat) c, o.cells[j]? = some c → W.cell? ((a.add (i * 10)).add j) = some c := by
      have build : ∀ n, n ≤ len0 → ∃ l : List POp, l.length = n ∧ ∀ i o, l[i]? = some o → ∀ (j : Nat) c, o.cells[j]? = some c → W.cell? ((a.add (i * 10)).add j) = some c := by
        intro n
        induction n with
        | zero => intro _; exact ⟨[], rfl, by simp⟩
        | succ n ih =>
          intro hn
          obtain ⟨l, hl, hc⟩ := ih (by omega)
          obtain ⟨o, ho⟩ := key n (by omega)
          refine ⟨l ++ [o], by simp [hl], fun i o' hi => ?_⟩
          by_cases hin : i < n
          · rw [List.getElem?_append_left (by omega)] at hi
            exact hc i o' hi
          · rw [List.getElem?_append_right (by omega), hl] at hi
            have e : i - n = 0 := by have := (List.getElem?_eq_some_iff.1 hi).1; simp at this; omega
            rw [e] at hi
            simp at hi
            subst hi
            obtain rfl : i = n := by omega
            exact ho
      exact build len0 (Nat.le_refl _)
    subst hl
    refine ⟨l, some a, cap0, l.map POp.cells, rfl, hlc, hcm, by simp, fun k x r hx hr => ?_, fun h0 => ?_⟩
    · rw [List.getElem?_map, hx] at hr
      simpa using hr.symm
    · have hc0 := hcells 0 l[0] (List.getElem?_eq_getElem h0) 0 _ rfl
      rw [Nat.zero_mul] at hc0
      have ha : a = ⟨a.block, a.off, none⟩ := by
        obtain ⟨b, o, s⟩ := a
        cases s with
        | none => rfl
        | some s =>
          exfalso
          simp only [Addr.add, if_pos] at hc0
          unfold World.cell? at hc0
          simp at hc0
          split at hc0 <;> cases hc0
      have hblt : a.block < W.heap.size := by
        have := World.block_lt_of_cell? W _ hc0
        simpa [Addr.add] using this
      refine ⟨a.block, a.off, by rw [← ha], trivial, hblt, fun k r j c hr hj => ?_⟩
      rw [List.getElem?_map] at hr
      obtain ⟨o, ho, rfl⟩ := Option.map_eq_some_iff.1 hr
      have := hcells k o ho j c hj
      rw [ha, Addr.add_lit, Addr.add_lit] at this
      exact this
end
end Go.Hg

namespace Go.Hg
open Go.RowKit Go.ChangeShapes Go.WideShapes Go.Deep Go.Proofs

section
variable {H : Type} {enc : TypeId × Value → H} {W : World} {base : Nat} {sp : Nat → Bool} {held : Bool}
set_option maxRecDepth 100000 in
theorem openOp1 {v : Value} {d : DataW H} {ps : List MemPlace} {r : Reach} {b0 : Nat} (hval : Value.okWide Tryz.prog W r b0 63 v) (h : DataW.Trod enc Tryz.prog W base sp held 63 v d ps) : ∃ o : POp, v = o.args := by
  obtain ⟨cs, rfl, -⟩ := okWide_struct Tryz.underlying63 hval
  obtain ⟨n, hn⟩ := h
  obtain ⟨o, ho⟩ := openOp hn
  refine ⟨o, ?_⟩
  have e : cs.toList = o.cells := ho
  have e2 : cs = o.cells.toArray := by rw [← e]
  rw [e2]
  rfl
set_option maxRecDepth 100000 in
theorem openU8 {v : Value} {d : DataW H} {ps : List MemPlace} {r : Reach} {b0 : Nat} (hval : Value.okWide Tryz.prog W r b0 5 v) (h : DataW.Trod enc Tryz.prog W base sp held 5 v d ps) : ∃ k : Nat, k < 256 ∧ v = .int .u8 k := by
  obtain ⟨m, rfl⟩ := okWide_int Tryz.underlying5 hval
  obtain ⟨n, hn⟩ := h
  obtain ⟨k, e, -, hw⟩ := DataW.trod_int Tryz.underlying5 hn
  have hb := bounds_u8 hw
  have e2 : m = k := by
    have e' : [Value.int .u8 m] = [Value.int .u8 k] := e
    simpa using e'
  subst e2
  exact ⟨m.toNat, by omega, by rw [Int.toNat_of_nonneg hb.1]⟩
end
end Go.Hg

namespace Go.Hg
open Go.RowKit Go.ChangeShapes Go.WideShapes Go.Deep Go.Proofs

/-- within int64 -/
def In64' (x : Int) : Prop := -9223372036854775808 ≤ x ∧ x ≤ 9223372036854775807
section
variable {H : Type} {enc : TypeId × Value → H} {W : World} {base : Nat} {sp : Nat → Bool} {held : Bool}
set_option maxRecDepth 100000 in
theorem openI64 {v : Value} {d : DataW H} {ps : List MemPlace} {r : Reach} {b0 : Nat} (hval : Value.okWide Tryz.prog W r b0 2 v) (h : DataW.Trod enc Tryz.prog W base sp held 2 v d ps) : ∃ x : Int, In64' x ∧ v = .int .i64 x := by
  obtain ⟨m, rfl⟩ := okWide_int Tryz.underlying2 hval
  obtain ⟨n, hn⟩ := h
  obtain ⟨k, e, -, hw⟩ := DataW.trod_int Tryz.underlying2 hn
  have hb := bounds_i64 hw
  have e2 : m = k := by
    have e' : [Value.int .i64 m] = [Value.int .i64 k] := e
    simpa using e'
  exact ⟨m, e2 ▸ hb, rfl⟩
set_option maxRecDepth 100000 in
theorem openInt {v : Value} {d : DataW H} {ps : List MemPlace} {r : Reach} {b0 : Nat} (hval : Value.okWide Tryz.prog W r b0 3 v) (h : DataW.Trod enc Tryz.prog W base sp held 3 v d ps) : ∃ x : Int, In64' x ∧ v = .int .i64 x := by
  obtain ⟨m, rfl⟩ := okWide_int Tryz.underlying3 hval
  obtain ⟨n, hn⟩ := h
  obtain ⟨k, e, -, hw⟩ := DataW.trod_int Tryz.underlying3 hn
  have hb := bounds_i64 hw
  have e2 : m = k := by
    have e' : [Value.int .i64 m] = [Value.int .i64 k] := e
    simpa using e'
  exact ⟨m, e2 ▸ hb, rfl⟩
set_option maxRecDepth 100000 in
theorem openStr {v : Value} {r : Reach} {b0 : Nat} (hval : Value.okWide Tryz.prog W r b0 9 v) : ∃ s : ByteArray, v = .string s := okWide_string Tryz.underlying9 hval
theorem okWide_arr {P : Program} {w : World} {r : Reach} {b0 : Nat} {t e : TypeId} {n : Nat} {v : Value} (ht : P.underlying t = some (.array n e)) (h : Value.okWide P w r b0 t v) : ∃ cs, v = .agg cs ∧ cs.size = P.cellsOf t := by
  simp only [Value.okWide, ht] at h
  obtain ⟨cs, h1, h2, _⟩ := h
  exact ⟨cs, h1, h2⟩
set_option maxRecDepth 100000 in
theorem cellsArr2 : Tryz.prog.cellsOf 23 = 2 := by kernel_rfl
set_option maxRecDepth 100000 in
theorem openArr2 {v : Value} {d : DataW H} {ps : List MemPlace} {r : Reach} {b0 : Nat} (hval : Value.okWide Tryz.prog W r b0 23 v) (h : DataW.Trod enc Tryz.prog W base sp held 23 v d ps) :
    ∃ x y : Int, In64' x ∧ In64' y ∧ v = .agg #[.int .i64 x, .int .i64 y] := by
  obtain ⟨cs, rfl, hcs⟩ := okWide_arr Tryz.underlying23 hval
  rw [cellsArr2] at hcs
  obtain ⟨n, hn⟩ := h
  obtain ⟨xs, m, -, -, hl, hsz, hf⟩ := DataW.trod_array Tryz.underlying23 hn
  obtain ⟨a, b, hab⟩ : ∃ a b, cs.toList = [a, b] := by
    have : cs.toList.length = 2 := by simpa using hcs
    match cs.toList, this with
    | [a, b], _ => exact ⟨a, b, rfl⟩
  have hab' : (Value.agg cs).cells.toList = [a, b] := hab
  rw [hab'] at hf
  have h0 := hf 0 (by omega)
  have h1 := hf 1 (by omega)
  rw [cellsI64] at h0 h1
  have l0 : 0 < xs.length := by omega
  have l1 : 1 < xs.length := by omega
  rw [List.getElem?_eq_getElem l0] at h0
  rw [List.getElem?_eq_getElem l1] at h1
  obtain ⟨k, e, -, hw⟩ := DataW.trod_int Tryz.underlying2 h0
  obtain ⟨k', e', -, hw'⟩ := DataW.trod_int Tryz.underlying2 h1
  simp at e e'
  refine ⟨k, k', bounds_i64 hw, bounds_i64 hw', ?_⟩
  have : cs = #[.int .i64 k, .int .i64 k'] := by
    apply Array.ext'
    rw [hab, e, e']
  rw [this]
end
end Go.Hg

namespace Go.Hg

theorem sum_add {α : Type} (f g : α → Nat) : ∀ l : List α, (l.map fun x => f x + g x).sum = (l.map f).sum + (l.map g).sum
  | [] => rfl
  | x :: t => by simp only [List.map_cons, List.sum_cons, sum_add f g t]; omega
theorem sum_zero {α : Type} (f : α → Nat) : ∀ l : List α, (∀ x ∈ l, f x = 0) → (l.map f).sum = 0
  | [], _ => rfl
  | x :: t, h => by rw [List.map_cons, List.sum_cons, h x (by simp), sum_zero f t (fun y hy => h y (by simp [hy]))]
theorem sum_one (a : Int) : ∀ l : List PNode, (l.map (·.id)).Pairwise (· < ·) → (∃ n ∈ l, n.id = a) → (l.map fun n => if a = n.id then 1 else 0).sum = 1
  | [], _, h => by obtain ⟨n, hn, -⟩ := h; cases hn
  | x :: t, hp, h => by
    rw [List.map_cons, List.pairwise_cons] at hp
    rw [List.map_cons, List.sum_cons]
    by_cases hx : a = x.id
    · rw [if_pos hx, sum_zero]
      intro y hy
      have := hp.1 y.id (List.mem_map_of_mem hy)
      rw [if_neg (by omega)]
    · rw [if_neg hx, sum_one a t hp.2]
      obtain ⟨n, hn, hna⟩ := h
      rcases List.mem_cons.1 hn with rfl | hn
      · exact absurd hna.symm hx
      · exact ⟨n, hn, hna⟩
theorem sum_ends (f : PEdge → Int) (ns : List PNode) (hp : (ns.map (·.id)).Pairwise (· < ·)) : ∀ es : List PEdge, (∀ x ∈ es, ∃ n ∈ ns, n.id = f x) → (ns.map fun n => (es.filter fun x => decide (f x = n.id)).length).sum = es.length
  | [], _ => sum_zero _ _ (fun _ _ => rfl)
  | e :: t, h => by
    have e1 : (ns.map fun n => ((e :: t).filter fun x => decide (f x = n.id)).length) = ns.map fun n => (if f e = n.id then 1 else 0) + (t.filter fun x => decide (f x = n.id)).length := by
      refine List.map_congr_left fun n _ => ?_
      rw [List.filter_cons]
      by_cases hn : f e = n.id
      · rw [if_pos (decide_eq_true hn), if_pos hn, List.length_cons]; omega
      · rw [if_neg (by simpa using hn), if_neg hn]; omega
    rw [e1, sum_add, sum_one _ _ hp (h e (by simp)), sum_ends f ns hp t (fun x hx => h x (by simp [hx])), List.length_cons]; omega
theorem sum_take (l : List Nat) (k : Nat) : (l.take k).sum ≤ l.sum := by
  have := List.take_append_drop k l
  conv => rhs; rw [← this]
  rw [List.sum_append]; omega
/-- the Ids of the edges that begin (f) at a node -/
theorem someE_all (l : List PEdge) (p : PEdge → Bool) : someE l ByteArray.empty p = (l.filter p).map (·.id) := by
  unfold someE
  simp
theorem some_at {l : List PEdge} {p : PEdge → Bool} (hs : (l.map (·.id)).Pairwise (· < ·)) {i : Int} (h : i ∈ someE l ByteArray.empty p) : ∃ x, (l.find? fun x => decide (x.id = i)) = some x ∧ p x = true ∧ x.id = i := by
  rw [someE_all] at h
  obtain ⟨x, hx, rfl⟩ := List.mem_map.1 h
  obtain ⟨hx1, hx2⟩ := List.mem_filter.1 hx
  obtain ⟨j, hj⟩ := List.getElem?_of_mem hx1
  exact ⟨x, find_idx (fun x : PEdge => x.id) hs hj rfl, hx2, rfl⟩
theorem some_up {l : List PEdge} {p : PEdge → Bool} (hs : (l.map (·.id)).Pairwise (· < ·)) : (someE l ByteArray.empty p).Pairwise (· < ·) := by
  rw [someE_all]
  exact hs.sublist (map_sub _ _ _)
/-- how many edges begin at the first k nodes -/
def endsAt (f : PEdge → Int) (G : PGraph) (k : Nat) : Nat := ((G.nodes.map fun n => (someE G.edges ByteArray.empty fun x => decide (f x = n.id)).length).take k).sum
theorem endsAt_zero (f : PEdge → Int) (G : PGraph) : endsAt f G 0 = 0 := rfl
theorem endsAt_succ (f : PEdge → Int) (G : PGraph) {k : Nat} {n : PNode} (h : G.nodes[k]? = some n) : endsAt f G (k + 1) = endsAt f G k + (someE G.edges ByteArray.empty fun x => decide (f x = n.id)).length := by
  unfold endsAt
  rw [List.take_add_one, List.sum_append]
  simp [h]
theorem endsAt_all {f : PEdge → Int} {G : PGraph} (hs : (G.nodes.map (·.id)).Pairwise (· < ·)) (h : ∀ x ∈ G.edges, hasN G (f x) = true) : endsAt f G G.nodes.length = G.edges.length := by
  unfold endsAt
  rw [List.take_of_length_le (by simp)]
  have e : (G.nodes.map fun n => (someE G.edges ByteArray.empty fun x => decide (f x = n.id)).length) = G.nodes.map fun n => (G.edges.filter fun x => decide (f x = n.id)).length := by
    refine List.map_congr_left fun n _ => ?_
    rw [someE_all, List.length_map]
  rw [e, sum_ends f _ hs _ (fun x hx => hasN_true.1 (h x hx))]
theorem endsAt_le {f : PEdge → Int} {G : PGraph} (hs : (G.nodes.map (·.id)).Pairwise (· < ·)) (h : ∀ x ∈ G.edges, hasN G (f x) = true) (k : Nat) : endsAt f G k ≤ G.edges.length := by
  have h1 := endsAt_all hs h
  unfold endsAt at h1 ⊢
  rw [List.take_of_length_le (by simp)] at h1
  rw [← h1]
  exact sum_take _ _
end Go.Hg

namespace Go.Hg
open Go.RowKit Go.Proofs

set_option maxRecDepth 100000 in
set_option maxHeartbeats 2000000 in
theorem refOut (S : Nat → Prop) (B : Nat) (G : PGraph) (id : Int) (typ : ByteArray) (w : World) (h : GraphRd 89 S w B G) (hb : G.edges.length ≤ 1099511627776) :
    Calls Tryz.prog 46 #[.pointer (some ⟨B, 0, none⟩), .int .i64 id, .string typ] w (IdsPost (someE G.edges typ fun x => decide (x.from_ = id)) w) := by
  obtain ⟨na, nc, ea, ec, hB, c0, c1, c2, -, hn⟩ := h.read
  obtain ⟨iP, hiP, hzP0, hzP1, hzP2⟩ := info_parts infoInt
  obtain ⟨_, _, hv, hal, hac, hA⟩ := SlR.open hn
  simp only [Value.slice.injEq, true_and] at hv
  obtain ⟨rfl, rfl⟩ := hv
  unfold maxLen at hac
  have HS := Lib.hid (show ∀ w', Grow w w' → B < w'.heap.size ∧ w'.cell? ⟨B, 1, none⟩ = some (.slice ea G.edges.length ec) from fun w' hg => ⟨Nat.lt_of_lt_of_le hB hg.size, (hg.cell (p := ⟨B, 1, none⟩) hB).trans c1⟩)
  have HA := Lib.hid hA; have HB := Lib.hid hb
  clear h hn hA hb c0 c2
  unfold someE
  generalize G.edges = l at *
  go_enter Tryz.func46, Tryz.ntmps46
  go_wp2
  go_loopg [7, 8] l.length (fun g vo i wr => ∃ (k : Nat) (ob : Option Nat), k ≤ l.length ∧ g = l.length - k ∧ i = .int .i64 k ∧ IdsO wr vo (((l.take k).filter fun x => (decide (typ = ByteArray.empty) || decide (x.typ = typ)) && decide (x.from_ = id)).map (·.id)) ob ∧ (∀ b, ob = some b → w.heap.size ≤ b) ∧ Grow w wr)
  case atStart => exact ⟨0, none, by omega, by omega, rfl, OwnS.nil _ _ _, by simp, Grow.rfl' w⟩
  case round =>
    obtain ⟨k, ob, hk, rfl, rfl, hown, hob, hgr⟩ := hrel
    have HOWN := Lib.hid hown; have HOB := Lib.hid hob; have HGR := Lib.hid hgr
    obtain ⟨oo, co, rfl, -, -⟩ := hown.isSlice
    obtain ⟨hBr, c1r⟩ := HS.out _ HGR.out
    clear c1
    by_cases hkl : k < l.length
    · obtain ⟨ba, oa, ra, rfl, hSa, hba, hRa, hca⟩ := HA.out k l[k] (List.getElem?_eq_getElem hkl)
      obtain ⟨pva, hba', a0, a1, a2, a3, a4, hpa⟩ := hRa.at hba hgr hca
      clear hca hRa hSa hba hgr hown hob hpa
      have HT := Lib.hid (show l.take (k + 1) = l.take k ++ [l[k]] from List.take_succ_eq_append_getElem hkl)
      have HFL := Lib.hid (show ((l.take k).filter fun x => (decide (typ = ByteArray.empty) || decide (x.typ = typ)) && decide (x.from_ = id)).length ≤ l.length from Nat.le_trans (List.length_filter_le _ _) (List.length_take_le' k l))
      generalize l[k] = p at *
      generalize hfl : ((l.take k).filter fun x => (decide (typ = ByteArray.empty) || decide (x.typ = typ)) && decide (x.from_ = id)).map (·.id) = fl at *
      have hfll : ((l.take k).filter fun x => (decide (typ = ByteArray.empty) || decide (x.typ = typ)) && decide (x.from_ = id)).length = fl.length := by rw [← hfl, List.length_map]
      rw [hfll] at HFL
      have HFF := Lib.hid hfl
      clear hfl hfll
      have hemp := empty_beq typ
      by_cases hp1 : p.from_ = id
      · have hq1 : (p.from_ == id) = true := by simpa using hp1
        cases he : decide (typ = ByteArray.empty)
        · rw [he] at hemp
          cases ht : decide (p.typ = typ)
          · have HATE := Lib.hid (show ((decide (typ = ByteArray.empty) || decide (p.typ = typ)) && decide (p.from_ = id)) = false by simp [*])
            clear hp1
            have hf1 : Hid (((l.take (k + 1)).filter fun x => (decide (typ = ByteArray.empty) || decide (x.typ = typ)) && decide (x.from_ = id)).map (·.id) = fl) := Lib.hid (by rw [HT.out, List.filter_append, ← HFF.out]; simp [HATE.out])
            go_wp2_with fail
            go_roundg (l.length - (k + 1))
            case measure => omega
            case rel => exact ⟨k + 1, ob, by omega, rfl, by go_num, by rw [hf1.out]; exact HOWN.out, HOB.out, HGR.out⟩
          · have HATE := Lib.hid (show ((decide (typ = ByteArray.empty) || decide (p.typ = typ)) && decide (p.from_ = id)) = true by simp [*])
            clear hp1
            have HW := Lib.hid (show ∀ o1, Grow wr (wr.alloc o1) from fun o1 => (Grow.rfl' wr).allocd o1)
            have hf1 : Hid (((l.take (k + 1)).filter fun x => (decide (typ = ByteArray.empty) || decide (x.typ = typ)) && decide (x.from_ = id)).map (·.id) = fl ++ [p.id]) := Lib.hid (by rw [HT.out, List.filter_append, ← HFF.out]; simp [HATE.out])
            have HRD := Lib.hid (Rd.lit wr #[.int .i64 p.id] 2 1 1 rfl)
            go_wp2_with (at_builtin; go_must (refine wpList_append_S _ rfl (.tmp 44) (.tmp 53) 30 rfl 2 iP _ 1 8 Tryz.underlying30 hiP hzP0 hzP1 hzP2 rfl (by decide) (.slice oo fl.length co) fl.length _ ob rfl (HOWN.out.grow (HW.out _)) (.slice (some ⟨wr.heap.size, 0, none⟩) 1 1) rfl 1 _ HRD.out (one1 _ rfl) (by have := HB.out; have := HFL.out; unfold maxLen; omega) (by have := HB.out; have := HFL.out; omega) ?_))
            intro v' w5 ob' h1 h2 h3
            have hown5 : IdsO w5 v' (((l.take (k + 1)).filter fun x => (decide (typ = ByteArray.empty) || decide (x.typ = typ)) && decide (x.from_ = id)).map (·.id)) ob' := by
              rw [hf1.out]
              unfold IdsO
              rw [List.length_append, List.map_append]
              exact h1
            have hsz := HGR.out.size
            have hob5 : ∀ b, ob' = some b → w.heap.size ≤ b := by
              intro b hb
              rcases h3 with h3 | ⟨g, h3, hge⟩
              · exact HOB.out b (by rw [← h3]; exact hb)
              · rw [h3] at hb; cases hb; first | omega | (simp at hge; omega)
            have hg5 : Grow w w5 := (HGR.out.step (HW.out _)).modd h2 (fun b hb => HOB.out b hb)
            have H5 := Lib.hid hown5; have HO5 := Lib.hid hob5; have HG5 := Lib.hid hg5
            clear h1 h2 h3 hown5 hob5 hg5 hsz
            go_wp2_with fail
            go_roundg (l.length - (k + 1))
            case measure => omega
            case rel => exact ⟨k + 1, ob', by omega, rfl, by go_num, H5.out, HO5.out, HG5.out⟩
        · rw [he] at hemp
          have HATE := Lib.hid (show ((decide (typ = ByteArray.empty) || decide (p.typ = typ)) && decide (p.from_ = id)) = true by simp [*])
          clear hp1
          have HW := Lib.hid (show ∀ o1, Grow wr (wr.alloc o1) from fun o1 => (Grow.rfl' wr).allocd o1)
          have hf1 : Hid (((l.take (k + 1)).filter fun x => (decide (typ = ByteArray.empty) || decide (x.typ = typ)) && decide (x.from_ = id)).map (·.id) = fl ++ [p.id]) := Lib.hid (by rw [HT.out, List.filter_append, ← HFF.out]; simp [HATE.out])
          have HRD := Lib.hid (Rd.lit wr #[.int .i64 p.id] 2 1 1 rfl)
          go_wp2_with (at_builtin; go_must (refine wpList_append_S _ rfl (.tmp 44) (.tmp 53) 30 rfl 2 iP _ 1 8 Tryz.underlying30 hiP hzP0 hzP1 hzP2 rfl (by decide) (.slice oo fl.length co) fl.length _ ob rfl (HOWN.out.grow (HW.out _)) (.slice (some ⟨wr.heap.size, 0, none⟩) 1 1) rfl 1 _ HRD.out (one1 _ rfl) (by have := HB.out; have := HFL.out; unfold maxLen; omega) (by have := HB.out; have := HFL.out; omega) ?_))
          intro v' w5 ob' h1 h2 h3
          have hown5 : IdsO w5 v' (((l.take (k + 1)).filter fun x => (decide (typ = ByteArray.empty) || decide (x.typ = typ)) && decide (x.from_ = id)).map (·.id)) ob' := by
            rw [hf1.out]
            unfold IdsO
            rw [List.length_append, List.map_append]
            exact h1
          have hsz := HGR.out.size
          have hob5 : ∀ b, ob' = some b → w.heap.size ≤ b := by
            intro b hb
            rcases h3 with h3 | ⟨g, h3, hge⟩
            · exact HOB.out b (by rw [← h3]; exact hb)
            · rw [h3] at hb; cases hb; first | omega | (simp at hge; omega)
          have hg5 : Grow w w5 := (HGR.out.step (HW.out _)).modd h2 (fun b hb => HOB.out b hb)
          have H5 := Lib.hid hown5; have HO5 := Lib.hid hob5; have HG5 := Lib.hid hg5
          clear h1 h2 h3 hown5 hob5 hg5 hsz
          go_wp2_with fail
          go_roundg (l.length - (k + 1))
          case measure => omega
          case rel => exact ⟨k + 1, ob', by omega, rfl, by go_num, H5.out, HO5.out, HG5.out⟩
      · have hq1 : (p.from_ == id) = false := by simpa using hp1
        have HATE := Lib.hid (show ((decide (typ = ByteArray.empty) || decide (p.typ = typ)) && decide (p.from_ = id)) = false by simp [*])
        clear hp1 hemp
        have hf1 : Hid (((l.take (k + 1)).filter fun x => (decide (typ = ByteArray.empty) || decide (x.typ = typ)) && decide (x.from_ = id)).map (·.id) = fl) := Lib.hid (by rw [HT.out, List.filter_append, ← HFF.out]; simp [HATE.out])
        go_wp2_with fail
        go_roundg (l.length - (k + 1))
        case measure => omega
        case rel => exact ⟨k + 1, ob, by omega, rfl, by go_num, by rw [hf1.out]; exact HOWN.out, HOB.out, HGR.out⟩
    · have hkk : l.take k = l := List.take_of_length_le (by omega)
      rw [hkk] at HOWN
      clear hown hob hgr
      simp only [hkk]
      go_wp2
      go_ret
      exact ⟨_, ob, rfl, HOWN.out, HOB.out, HGR.out⟩

set_option maxRecDepth 100000 in
set_option maxHeartbeats 2000000 in
theorem refIn (S : Nat → Prop) (B : Nat) (G : PGraph) (id : Int) (typ : ByteArray) (w : World) (h : GraphRd 89 S w B G) (hb : G.edges.length ≤ 1099511627776) :
    Calls Tryz.prog 47 #[.pointer (some ⟨B, 0, none⟩), .int .i64 id, .string typ] w (IdsPost (someE G.edges typ fun x => decide (x.to_ = id)) w) := by
  obtain ⟨na, nc, ea, ec, hB, c0, c1, c2, -, hn⟩ := h.read
  obtain ⟨iP, hiP, hzP0, hzP1, hzP2⟩ := info_parts infoInt
  obtain ⟨_, _, hv, hal, hac, hA⟩ := SlR.open hn
  simp only [Value.slice.injEq, true_and] at hv
  obtain ⟨rfl, rfl⟩ := hv
  unfold maxLen at hac
  have HS := Lib.hid (show ∀ w', Grow w w' → B < w'.heap.size ∧ w'.cell? ⟨B, 1, none⟩ = some (.slice ea G.edges.length ec) from fun w' hg => ⟨Nat.lt_of_lt_of_le hB hg.size, (hg.cell (p := ⟨B, 1, none⟩) hB).trans c1⟩)
  have HA := Lib.hid hA; have HB := Lib.hid hb
  clear h hn hA hb c0 c2
  unfold someE
  generalize G.edges = l at *
  go_enter Tryz.func47, Tryz.ntmps47
  go_wp2
  go_loopg [7, 8] l.length (fun g vo i wr => ∃ (k : Nat) (ob : Option Nat), k ≤ l.length ∧ g = l.length - k ∧ i = .int .i64 k ∧ IdsO wr vo (((l.take k).filter fun x => (decide (typ = ByteArray.empty) || decide (x.typ = typ)) && decide (x.to_ = id)).map (·.id)) ob ∧ (∀ b, ob = some b → w.heap.size ≤ b) ∧ Grow w wr)
  case atStart => exact ⟨0, none, by omega, by omega, rfl, OwnS.nil _ _ _, by simp, Grow.rfl' w⟩
  case round =>
    obtain ⟨k, ob, hk, rfl, rfl, hown, hob, hgr⟩ := hrel
    have HOWN := Lib.hid hown; have HOB := Lib.hid hob; have HGR := Lib.hid hgr
    obtain ⟨oo, co, rfl, -, -⟩ := hown.isSlice
    obtain ⟨hBr, c1r⟩ := HS.out _ HGR.out
    clear c1
    by_cases hkl : k < l.length
    · obtain ⟨ba, oa, ra, rfl, hSa, hba, hRa, hca⟩ := HA.out k l[k] (List.getElem?_eq_getElem hkl)
      obtain ⟨pva, hba', a0, a1, a2, a3, a4, hpa⟩ := hRa.at hba hgr hca
      clear hca hRa hSa hba hgr hown hob hpa
      have HT := Lib.hid (show l.take (k + 1) = l.take k ++ [l[k]] from List.take_succ_eq_append_getElem hkl)
      have HFL := Lib.hid (show ((l.take k).filter fun x => (decide (typ = ByteArray.empty) || decide (x.typ = typ)) && decide (x.to_ = id)).length ≤ l.length from Nat.le_trans (List.length_filter_le _ _) (List.length_take_le' k l))
      generalize l[k] = p at *
      generalize hfl : ((l.take k).filter fun x => (decide (typ = ByteArray.empty) || decide (x.typ = typ)) && decide (x.to_ = id)).map (·.id) = fl at *
      have hfll : ((l.take k).filter fun x => (decide (typ = ByteArray.empty) || decide (x.typ = typ)) && decide (x.to_ = id)).length = fl.length := by rw [← hfl, List.length_map]
      rw [hfll] at HFL
      have HFF := Lib.hid hfl
      clear hfl hfll
      have hemp := empty_beq typ
      by_cases hp1 : p.to_ = id
      · have hq1 : (p.to_ == id) = true := by simpa using hp1
        cases he : decide (typ = ByteArray.empty)
        · rw [he] at hemp
          cases ht : decide (p.typ = typ)
          · have HATE := Lib.hid (show ((decide (typ = ByteArray.empty) || decide (p.typ = typ)) && decide (p.to_ = id)) = false by simp [*])
            clear hp1
            have hf1 : Hid (((l.take (k + 1)).filter fun x => (decide (typ = ByteArray.empty) || decide (x.typ = typ)) && decide (x.to_ = id)).map (·.id) = fl) := Lib.hid (by rw [HT.out, List.filter_append, ← HFF.out]; simp [HATE.out])
            go_wp2_with fail
            go_roundg (l.length - (k + 1))
            case measure => omega
            case rel => exact ⟨k + 1, ob, by omega, rfl, by go_num, by rw [hf1.out]; exact HOWN.out, HOB.out, HGR.out⟩
          · have HATE := Lib.hid (show ((decide (typ = ByteArray.empty) || decide (p.typ = typ)) && decide (p.to_ = id)) = true by simp [*])
            clear hp1
            have HW := Lib.hid (show ∀ o1, Grow wr (wr.alloc o1) from fun o1 => (Grow.rfl' wr).allocd o1)
            have hf1 : Hid (((l.take (k + 1)).filter fun x => (decide (typ = ByteArray.empty) || decide (x.typ = typ)) && decide (x.to_ = id)).map (·.id) = fl ++ [p.id]) := Lib.hid (by rw [HT.out, List.filter_append, ← HFF.out]; simp [HATE.out])
            have HRD := Lib.hid (Rd.lit wr #[.int .i64 p.id] 2 1 1 rfl)
            go_wp2_with (at_builtin; go_must (refine wpList_append_S _ rfl (.tmp 44) (.tmp 53) 30 rfl 2 iP _ 1 8 Tryz.underlying30 hiP hzP0 hzP1 hzP2 rfl (by decide) (.slice oo fl.length co) fl.length _ ob rfl (HOWN.out.grow (HW.out _)) (.slice (some ⟨wr.heap.size, 0, none⟩) 1 1) rfl 1 _ HRD.out (one1 _ rfl) (by have := HB.out; have := HFL.out; unfold maxLen; omega) (by have := HB.out; have := HFL.out; omega) ?_))
            intro v' w5 ob' h1 h2 h3
            have hown5 : IdsO w5 v' (((l.take (k + 1)).filter fun x => (decide (typ = ByteArray.empty) || decide (x.typ = typ)) && decide (x.to_ = id)).map (·.id)) ob' := by
              rw [hf1.out]
              unfold IdsO
              rw [List.length_append, List.map_append]
              exact h1
            have hsz := HGR.out.size
            have hob5 : ∀ b, ob' = some b → w.heap.size ≤ b := by
              intro b hb
              rcases h3 with h3 | ⟨g, h3, hge⟩
              · exact HOB.out b (by rw [← h3]; exact hb)
              · rw [h3] at hb; cases hb; first | omega | (simp at hge; omega)
            have hg5 : Grow w w5 := (HGR.out.step (HW.out _)).modd h2 (fun b hb => HOB.out b hb)
            have H5 := Lib.hid hown5; have HO5 := Lib.hid hob5; have HG5 := Lib.hid hg5
            clear h1 h2 h3 hown5 hob5 hg5 hsz
            go_wp2_with fail
            go_roundg (l.length - (k + 1))
            case measure => omega
            case rel => exact ⟨k + 1, ob', by omega, rfl, by go_num, H5.out, HO5.out, HG5.out⟩
        · rw [he] at hemp
          have HATE := Lib.hid (show ((decide (typ = ByteArray.empty) || decide (p.typ = typ)) && decide (p.to_ = id)) = true by simp [*])
          clear hp1
          have HW := Lib.hid (show ∀ o1, Grow wr (wr.alloc o1) from fun o1 => (Grow.rfl' wr).allocd o1)
          have hf1 : Hid (((l.take (k + 1)).filter fun x => (decide (typ = ByteArray.empty) || decide (x.typ = typ)) && decide (x.to_ = id)).map (·.id) = fl ++ [p.id]) := Lib.hid (by rw [HT.out, List.filter_append, ← HFF.out]; simp [HATE.out])
          have HRD := Lib.hid (Rd.lit wr #[.int .i64 p.id] 2 1 1 rfl)
          go_wp2_with (at_builtin; go_must (refine wpList_append_S _ rfl (.tmp 44) (.tmp 53) 30 rfl 2 iP _ 1 8 Tryz.underlying30 hiP hzP0 hzP1 hzP2 rfl (by decide) (.slice oo fl.length co) fl.length _ ob rfl (HOWN.out.grow (HW.out _)) (.slice (some ⟨wr.heap.size, 0, none⟩) 1 1) rfl 1 _ HRD.out (one1 _ rfl) (by have := HB.out; have := HFL.out; unfold maxLen; omega) (by have := HB.out; have := HFL.out; omega) ?_))
          intro v' w5 ob' h1 h2 h3
          have hown5 : IdsO w5 v' (((l.take (k + 1)).filter fun x => (decide (typ = ByteArray.empty) || decide (x.typ = typ)) && decide (x.to_ = id)).map (·.id)) ob' := by
            rw [hf1.out]
            unfold IdsO
            rw [List.length_append, List.map_append]
            exact h1
          have hsz := HGR.out.size
          have hob5 : ∀ b, ob' = some b → w.heap.size ≤ b := by
            intro b hb
            rcases h3 with h3 | ⟨g, h3, hge⟩
            · exact HOB.out b (by rw [← h3]; exact hb)
            · rw [h3] at hb; cases hb; first | omega | (simp at hge; omega)
          have hg5 : Grow w w5 := (HGR.out.step (HW.out _)).modd h2 (fun b hb => HOB.out b hb)
          have H5 := Lib.hid hown5; have HO5 := Lib.hid hob5; have HG5 := Lib.hid hg5
          clear h1 h2 h3 hown5 hob5 hg5 hsz
          go_wp2_with fail
          go_roundg (l.length - (k + 1))
          case measure => omega
          case rel => exact ⟨k + 1, ob', by omega, rfl, by go_num, H5.out, HO5.out, HG5.out⟩
      · have hq1 : (p.to_ == id) = false := by simpa using hp1
        have HATE := Lib.hid (show ((decide (typ = ByteArray.empty) || decide (p.typ = typ)) && decide (p.to_ = id)) = false by simp [*])
        clear hp1 hemp
        have hf1 : Hid (((l.take (k + 1)).filter fun x => (decide (typ = ByteArray.empty) || decide (x.typ = typ)) && decide (x.to_ = id)).map (·.id) = fl) := Lib.hid (by rw [HT.out, List.filter_append, ← HFF.out]; simp [HATE.out])
        go_wp2_with fail
        go_roundg (l.length - (k + 1))
        case measure => omega
        case rel => exact ⟨k + 1, ob, by omega, rfl, by go_num, by rw [hf1.out]; exact HOWN.out, HOB.out, HGR.out⟩
    · have hkk : l.take k = l := List.take_of_length_le (by omega)
      rw [hkk] at HOWN
      clear hown hob hgr
      simp only [hkk]
      go_wp2
      go_ret
      exact ⟨_, ob, rfl, HOWN.out, HOB.out, HGR.out⟩

end Go.Hg
