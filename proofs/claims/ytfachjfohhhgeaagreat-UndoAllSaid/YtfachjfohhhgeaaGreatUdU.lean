/- (undo.Trail).find, Undo; What holds of each trail: it is kept by each call; The graph that a trail goes back to: the plain words of UndoAll, UndoRedoes; hedgerowlaw19.UndoAll: true. Conditions: those that each theorem names. -/
import Derived.WalkKit
import Derived.WalkSpells
import Derived.WalkLawsBesides
import Derived.Lib.Hide
import Derived.BigQuiet
import Derived.Deep.LoopGhost
import Derived.Maps.OwnOps
import Derived.Maps.OwnSet
import Derived.Carry
import Derived.Test.YtfachjfohhhgeaaGreatRows
import Derived.Lib.SlKeysI
import Derived.Lib.SliceRun
import Derived.WideMake
import Derived.Deep.RegionLaw
import Derived.Lib.Overlaps
import Derived.Deep.RegionHeld3
import Derived.Laws.ResultCell
import Derived.Shelf.SlSortCmp.WholeK
import Derived.Laws.EntriesVeiled
import Derived.Deep.DeepCutAuto
import Derived.Deep.CutBlock
import Derived.Test.YtfachjfohhhgeaaGreatUdL
import Derived.Test.YtfachjfohhhgeaaGreatUdM
import Derived.Test.YtfachjfohhhgeaaGreatUdN
import Derived.Test.YtfachjfohhhgeaaGreatUdS
namespace Go.Hg
open Go.RowKit Go.Proofs

set_option maxRecDepth 100000 in
set_option maxHeartbeats 1000000 in
theorem undoUndo (P : Nat → Prop) (A B : Nat) (T : PTrail) (w : World) (h : TrailOk P w A B T) (hT : TInv T) :
    Calls Tryz.prog 25 #[capU A] w fun e w' => e = .returned (.tuple #[]) ∧ TrailOk (fun b => P b ∨ w.heap.size ≤ b) w' A B ⟨(cutT T 0).g, [], []⟩ ∧ Mod P w w' := by
  obtain ⟨S, K, ol, om, hat, p1, p2, p3, p4, p5⟩ := h
  have HAT := Lib.hid hat; have HT := Lib.hid hT; have P1 := Lib.hid p1; have P2 := Lib.hid p2; have P3 := Lib.hid p3; have P4 := Lib.hid p4; have P5 := Lib.hid p5
  obtain ⟨la, lc, ma, mc, hA, hAl, c0, c1, c2, -, -⟩ := hat.read
  clear hat hT p1 p2 p3 p4 p5 hA
  go_enter Tryz.func25, Tryz.ntmps25
  go_wp2_with fail
  refine (undoNone2 A B w c0).mono ?_
  rintro e w2 ⟨rfl, hw2⟩
  subst hw2
  go_wp2_with fail
  refine (undoCut S K ol om A B T 0 _ HAT.out HT.out (by omega)).mono ?_
  rintro e w3 ⟨rfl, S', hat3, hS', hm3⟩
  have HAT3 := Lib.hid hat3; have HS' := Lib.hid hS'; have HM3 := Lib.hid hm3
  obtain ⟨la3, lc3, ma3, mc3, hA3, hAl3, c03, c13, c23, -, -⟩ := hat3.read
  have f3 := blk_free hA3 2
  clear hat3 hS' hm3 hA3
  go_wp2
  go_end0
  have h9 := HAT3.out.setM (mv' := .slice none 0 0) (m' := []) (om' := none) (OwnL.nil _ _ _ _) (by simp)
  have e : (⟨(cutT T 0).g, (cutT T 0).l, []⟩ : PTrail) = ⟨(cutT T 0).g, [], []⟩ := by unfold cutT; simp
  rw [e] at h9
  refine ⟨rfl, ⟨S', K, ol, none, h9, .inl P1.out, fun b hb => (HS'.out b hb).imp (P2.out b) id, fun b hb => .inl (P3.out b hb), fun g hg => .inl (P4.out g hg), by simp⟩, ?_⟩
  exact (HM3.out.mono (fun b hb => hb.elim (P2.out b) (fun e => e ▸ P1.out))).setd (p := ⟨A, 2, none⟩) (.inl P1.out) _

end Go.Hg

namespace Go.Hg

theorem TInv.undo {T : PTrail} (h : TInv T) : TInv ⟨(cutT T 0).g, [], []⟩ := TInv.new (h.cut 0).good
end Go.Hg

namespace Go.Hg

theorem first_cut (T : PTrail) : (cutT T 0).g = firstT T := rfl
end Go.Hg

namespace Go.Hg
open Go.RowKit Go.Proofs

set_option maxRecDepth 100000 in
set_option maxHeartbeats 16000000 in
theorem law19All (Sa : Nat → Prop) (va : Value) (l1 : List POp) (Sb : Nat → Prop) (vb : Value) (l2 : List PStep) (w : World) (h1 : OpsR Sa w va l1) (h2 : StepsU Sb w vb l2) : Calls Tryz.prog 6 #[va, vb] w fun e w' => e = .returned (.bool true) ∧ Grow w w' := by
  have H1 := Lib.hid h1; have H2 := Lib.hid h2
  obtain ⟨aa, ca, rfl, hal, hac, hA⟩ := SlR.open h2
  obtain ⟨a1, c1, rfl, _⟩ := SlR.open h1
  have HA := Lib.hid hA
  unfold maxLen at hac
  clear h1 h2 hA
  go_enter Tryz.func6, Tryz.ntmps6
  go_wp2_with fail
  refine (lawMade Sa _ l1 w H1.out).mono ?_
  rintro e w1 (⟨-, rfl, hg1⟩ | ⟨-, B1, B2, rfl, hp⟩)
  · have HG1 := Lib.hid hg1
    clear hg1
    go_wp2_with fail
    refine (law19Wakes w1).mono ?_
    rintro e w2 ⟨rfl, hg2⟩
    go_wp2
    go_ret
    exact ⟨rfl, HG1.out.step hg2⟩
  have hgd0 : goodG (madeG l1) = true := madeK_good _ _
  generalize madeG l1 = G at *
  have HGD := Lib.hid hgd0
  obtain ⟨S1, S2, q1, q2, q3, q4, q5, q6⟩ := hp
  have Q1 := Lib.hid q1; have Q2 := Lib.hid q2; have Q3 := Lib.hid q3; have Q4 := Lib.hid q4; have Q5 := Lib.hid q5; have HG1 := Lib.hid q6
  clear q1 q2 q3 q4 q5 q6 hgd0
  go_wp2_with fail
  refine (law19Fair Sb _ l2 w1 (H2.out.growS HG1.out)).mono ?_
  rintro e w2 ⟨rfl, hg2⟩
  have HG2 := Lib.hid (HG1.out.step hg2); have HG12 := Lib.hid hg2
  have hs12 := hg2.size
  clear hg2
  cases hf : fairS l2
  · clear hf
    go_wp2_with fail
    refine (law19Wakes w2).mono ?_
    rintro e w3 ⟨rfl, hg3⟩
    go_wp2
    go_ret
    exact ⟨rfl, HG2.out.step hg3⟩
  clear hf
  go_wp2_with fail
  refine (undoNew S1 B1 G w2 (Q1.out.grow HG12.out)).mono ?_
  rintro e w3 ⟨A, rfl, hT, hg3⟩
  obtain ⟨P, hP⟩ : ∃ P : Nat → Prop, P = fun b => S1 b ∨ w2.heap.size ≤ b := ⟨_, rfl⟩
  have HT0 := Lib.hid (show TrailOk P w3 A B1 ⟨G, [], []⟩ by rw [hP]; exact hT)
  have HPW := Lib.hid (show ∀ b, P b → w.heap.size ≤ b from fun b hb => by
    rw [hP] at hb
    have h1 := HG1.out.size
    rcases hb with hb | hb
    · exact (Q4.out b hb).1
    · omega)
  have HPB := Lib.hid (show ∀ b, w2.heap.size ≤ b → P b from fun b hb => by rw [hP]; exact .inr hb)
  have HP2 := Lib.hid (show ∀ b, S2 b → ¬ P b from fun b hb h => by
    rw [hP] at h
    rcases h with h | h
    · exact Q3.out b h hb
    · have := (Q5.out b hb).2; omega)
  have HG03 := Lib.hid (HG2.out.step hg3)
  have HQ3 := Lib.hid (Q2.out.grow (HG12.out.step hg3))
  have hs23 := hg3.size
  have HI0 := Lib.hid (TInv.new HGD.out)
  clear hT hg3 hP
  go_wp2
  go_loopg [9] l2.length (fun g iv wr => ∃ (i : Nat) (T : PTrail), i ≤ l2.length ∧ g = l2.length - i ∧ iv = .int .i64 i ∧ TrailOk P wr A B1 T ∧ T = runT ⟨G, [], []⟩ (l2.take i) ∧ Mod P w3 wr)
  case atStart => exact ⟨0, ⟨G, [], []⟩, by omega, by omega, rfl, HT0.out, rfl, Mod.rfl' _ _⟩
  case round =>
    obtain ⟨i, T, hi, rfl, rfl, hT, hr, hm⟩ := hrel
    have HTR := Lib.hid hT; have HMR := Lib.hid hm; have HR := Lib.hid hr
    have HIR := Lib.hid (show TInv T from hr ▸ inv_run _ HI0.out)
    have hsr := hm.size
    clear hT hm hr
    by_cases hil : i < l2.length
    · obtain ⟨ba, oa, ra, rfl, hSa, hba, hRa, hca⟩ := HA.out i l2[i] (List.getElem?_eq_getElem hil)
      have HTK := Lib.hid (show l2.take (i + 1) = l2.take i ++ [l2[i]] from List.take_succ_eq_append_getElem hil)
      have HCS := Lib.hid (show ∀ w', Mod P w3 w' → StpD w' ba (oa + i * 12) l2[i] from fun w' m => stpD_of hRa ((m.block ba (Nat.lt_of_lt_of_le hba HG03.out.size) (fun h => by have := HPW.out ba h; omega)).trans (HG03.out.heapEq hba)) hca)
      clear hca hRa hSa hba
      generalize l2[i] = x at *
      obtain ⟨b0, k0, k1, k2, k3, k4, k5, k6, k7, k8, k9, k10, k11⟩ := HCS.out wr HMR.out
      go_upto_block 1 with fail
      go_cut [] (fun wx => TailU P w3 wx A B1 (stepT T x))
      case first =>
        by_cases hk0 : x.kind = 0
        · have e0 : (x.kind == 0) = true := by simpa using hk0
          have HST := Lib.hid (show (doT T x.o).2 = stepT T x by unfold stepT; rw [if_pos hk0])
          have HD := Lib.hid (show Grow wr wr.drew from (Grow.rfl' wr).drewd)
          have HS := Lib.hid (show ∀ w', Grow wr w' → StpD w' ba (oa + i * 12) x from fun w' g => HCS.out w' (HMR.out.step (Mod.of_grow g)))
          clear hk0
          go_wp2_with fail
          go_region_held3 (fun w' => StpD w' ba (oa + i * 12) x) (first | exact HS.out _ HD.out | exact HS.out _ HT3.out | exact HKD4.out) (first | (go_at_call 14; refine (lawTypes _).mono ?_; rintro e wt3 ⟨nv, ev, rfl, hc, hg3⟩; have HC := Lib.hid hc; have HT3 := Lib.hid (HD.out.step hg3); obtain ⟨na, nc, ea, ec, ra, rc, ia, ic, rfl, rfl, -, -⟩ := hc.slices; clear hc hg3) | (go_at_call 13; refine (undoDo P _ A B1 T x.o _ _ _ _ _ (HTR.out.grow HT3.out) HIR.out HC.out).mono ?_; rintro e wd4 ⟨rfl, hT4, m4⟩; have HM4 := Lib.hid ((HMR.out.step (Mod.of_grow HT3.out)).step m4); have HKD4 := Lib.hid (HCS.out wd4 HM4.out); have HT4 := Lib.hid (show TrailOk P wd4 A B1 (stepT T x) from HST.out ▸ hT4.sub (fun b hb => hb.elim id (fun h => HPB.out b (by have := HT3.out.size; omega)))); clear hT4 m4))
          go_wp2_with fail
          go_meet
          exact ⟨HT4.out, HM4.out⟩
        have e0 : (x.kind == 0) = false := by simpa using hk0
        by_cases hk1 : x.kind = 1
        · have e1 : (x.kind == 1) = true := by simpa using hk1
          have HST := Lib.hid (show (markT T x.name).2 = stepT T x by unfold stepT; rw [if_neg hk0, if_pos hk1])
          clear hk0 hk1
          go_wp2_with fail
          refine (undoMark P A B1 T x.name wr HTR.out HIR.out).mono ?_
          rintro e wd4 ⟨rfl, hT4, m4⟩
          have HM4 := Lib.hid (HMR.out.step m4)
          have HT4 := Lib.hid (show TrailOk P wd4 A B1 (stepT T x) from HST.out ▸ hT4.sub (fun b hb => hb.elim id (fun h => HPB.out b (by omega))))
          clear hT4 m4
          go_wp2_with fail
          go_meet
          exact ⟨HT4.out, HM4.out⟩
        have e1 : (x.kind == 1) = false := by simpa using hk1
        by_cases hk2 : x.kind = 2
        · have e2 : (x.kind == 2) = true := by simpa using hk2
          have HST := Lib.hid (show (backT T x.name).2 = stepT T x by unfold stepT; rw [if_neg hk0, if_neg hk1, if_pos hk2])
          clear hk0 hk1 hk2
          go_wp2_with fail
          refine (undoBackTo P A B1 T x.name wr HTR.out HIR.out).mono ?_
          rintro e wd4 ⟨rfl, hT4, m4⟩
          have HM4 := Lib.hid (HMR.out.step m4)
          have HT4 := Lib.hid (show TrailOk P wd4 A B1 (stepT T x) from HST.out ▸ hT4.sub (fun b hb => hb.elim id (fun h => HPB.out b (by omega))))
          clear hT4 m4
          go_wp2_with fail
          go_meet
          exact ⟨HT4.out, HM4.out⟩
        · have e2 : (x.kind == 2) = false := by simpa using hk2
          have HST := Lib.hid (show T = stepT T x by unfold stepT; rw [if_neg hk0, if_neg hk1, if_neg hk2])
          clear hk0 hk1 hk2
          go_wp2_with fail
          go_meet
          exact ⟨HST.out ▸ HTR.out, HMR.out⟩
      case rest =>
        obtain ⟨w9, rfl⟩ : ∃ w9, w9 = wc := ⟨_, rfl⟩
        obtain ⟨ht9, hm9⟩ := hcut
        have HT9 := Lib.hid ht9; have HM9 := Lib.hid hm9
        have HRR := Lib.hid (show stepT T x = runT ⟨G, [], []⟩ (l2.take (i + 1)) by rw [HTK.out, runT_snoc, ← HR.out])
        clear ht9 hm9 b0 k0 k1 k2 k3 k4 k5 k6 k7 k8 k9 k10 k11
        go_wp2_with fail
        go_roundg (l2.length - (i + 1))
        case measure => omega
        case rel => exact ⟨i + 1, _, by omega, rfl, by first | go_num | (unfold wrap64; refine congrArg _ ?_; omega), HT9.out, HRR.out, HM9.out⟩
    · obtain ⟨T5, e5⟩ : ∃ T5 : PTrail, T5 = ⟨(cutT T 0).g, [], []⟩ := ⟨_, rfl⟩
      have E5 := Lib.hid e5
      have HG5 := Lib.hid (show T5.g = G by
        rw [E5.out]
        show (cutT T 0).g = G
        rw [first_cut, HR.out, first_run]
        rfl)
      have h51 : T5.l.length = 0 := by rw [e5]; rfl
      have h52 : T5.marks.length = 0 := by rw [e5]; rfl
      have HI5 := Lib.hid (show TInv T5 from e5 ▸ HIR.out.undo)
      clear e5
      go_wp2_with fail
      refine (undoUndo P A B1 T wr HTR.out HIR.out).mono ?_
      rintro e w4 ⟨rfl, hT4, m4⟩
      rw [← E5.out] at hT4
      have HT4 := Lib.hid hT4; have HM4 := Lib.hid (HMR.out.step m4)
      clear hT4 m4
      go_wp2_with fail
      refine (lawSame _ S2 B1 B2 G w4 (HG5.out ▸ HT4.out.graph) (HQ3.out.keep HM4.out HP2.out) (goodG_inv HGD.out)).mono ?_
      rintro e w5 ⟨rfl, g5⟩
      have HT5 := Lib.hid (HT4.out.grow g5); have HM5 := Lib.hid (HM4.out.step (Mod.of_grow g5))
      clear g5
      go_wp2_with fail
      refine (undoDone _ A B1 T5 w5 HT5.out HI5.out).mono ?_
      rintro e w6 ⟨v, ob, rfl, hown, -, g6⟩
      obtain ⟨a11, c11, rfl, -, -⟩ := hown.isSlice
      rw [h51]
      have HT6 := Lib.hid (HT5.out.grow g6); have HM6 := Lib.hid (HM5.out.step (Mod.of_grow g6))
      clear hown g6
      go_wp2_with fail
      refine (undoMarks _ A B1 T5 w6 HT6.out HI5.out).mono ?_
      rintro e w7 ⟨v, ob, rfl, hown, -, g7⟩
      obtain ⟨a12, c12, rfl, -, -⟩ := hown.isSlice
      rw [h52]
      have HM7 := Lib.hid (HM6.out.step (Mod.of_grow g7))
      clear hown g7
      go_wp2_with fail
      refine (law19Wakes w7).mono ?_
      rintro e w8 ⟨rfl, g8⟩
      go_wp2
      go_ret
      exact ⟨rfl, (HG03.out.modd HM7.out HPW.out).step g8⟩
end Go.Hg
